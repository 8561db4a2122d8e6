/- The reference's read, Take. -/
import Derived.Test.YtdienbcjfljjnaaGreatDoorWireR
import Derived.Test.YtdienbcjfljjnaaGreatDoorPlT
import Derived.Test.YtdienbcjfljjnaaGreatDoorPlA
import Derived.Test.YtdienbcjfljjnaaGreatDoorVaM
open Go.RowKit Go.Shelf
namespace Go.Proofs.YtdienbcjfljjnaaGreatDoor
open Go Go.Proofs Fm

/-- What read comes to. -/
def RReadPost (d : Nat) (xs : List UInt8) (w : World) (e : Ending) (w' : World) : Prop :=
  match rreadT d xs with
  | none => e = .returned (.tuple #[.agg #[.int .u8 0, .int .i64 0, .string { data := #[] }, .slice none 0 0], .int .i64 0]) ∧ Ext w w'
  | some (t, r) => ∃ (v : Value) (A : Nat), e = .returned (.tuple #[v, .int .i64 A]) ∧ 0 < A ∧ A ≤ xs.length ∧ r = xs.drop A ∧ Ext w w' ∧ OwnT 43 w' w.heap.size t v

theorem elem_val : ElemOf Tryz.prog 41 43 (.agg #[.int .u8 0, .int .i64 0, .string { data := #[] }, .slice none 0 0]) 4 56 := ⟨Tryz.underlying41, info_val, rfl, by decide⟩

/-- The results' box is written with nothing. -/
theorem rread_none {d : Nat} {xs : List UInt8} {w w1 : World} (hE : Ext w w1) (hr : rreadT d xs = none) {c0 c1 c2 c3 : Value} (hb : Box4 w1 w.heap.size c0 c1 c2 c3) :
    Ext w (set4W w1 w.heap.size (.int .u8 0) (.int .i64 0) (.string { data := #[] }) (.slice none 0 0)) ∧ Box4 (set4W w1 w.heap.size (.int .u8 0) (.int .i64 0) (.string { data := #[] }) (.slice none 0 0)) w.heap.size (.int .u8 0) (.int .i64 0) (.string { data := #[] }) (.slice none 0 0) ∧
    RReadPost d xs w (.returned (.tuple #[.agg #[.int .u8 0, .int .i64 0, .string { data := #[] }, .slice none 0 0], .int .i64 0])) (set4W w1 w.heap.size (.int .u8 0) (.int .i64 0) (.string { data := #[] }) (.slice none 0 0)) := by
  obtain ⟨h1, h2, _⟩ := set4_facts (k := .int .u8 0) (n := .int .i64 0) (s := .string { data := #[] }) (d := .slice none 0 0) hE hb (Nat.le_refl _)
  exact ⟨h1, h2, by unfold RReadPost; rw [hr]; exact ⟨rfl, h1⟩⟩

theorem rread_some {d : Nat} {xs : List UInt8} {w w1 : World} (hE : Ext w w1) {t : Tr} {r : List UInt8} (hr : rreadT d xs = some (t, r)) {c0 c1 c2 c3 : Value} (hb : Box4 w1 w.heap.size c0 c1 c2 c3) {k n s dd : Value} {base : Nat}
    (hO : OwnT 43 w1 base t (.agg #[k, n, s, dd])) (hbase : w.heap.size < base) (A : Nat) (hA : 0 < A) (hA2 : A ≤ xs.length) (hr2 : r = xs.drop A) :
    Ext w (set4W w1 w.heap.size k n s dd) ∧ Box4 (set4W w1 w.heap.size k n s dd) w.heap.size k n s dd ∧ RReadPost d xs w (.returned (.tuple #[.agg #[k, n, s, dd], .int .i64 (A : Int)])) (set4W w1 w.heap.size k n s dd) := by
  obtain ⟨h1, h2, h3⟩ := set4_facts (k := k) (n := n) (s := s) (d := dd) hE hb (Nat.le_refl _)
  refine ⟨h1, h2, ?_⟩
  unfold RReadPost; rw [hr]
  exact ⟨_, A, rfl, hA, hA2, hr2, h1, (hO.grown h3 (fun b hb => by injection hb with hb; omega)).mono (by omega)⟩

set_option maxRecDepth 100000 in
set_option maxHeartbeats 4000000 in
theorem rread_any : ∀ (d : Nat), d ≤ 100 → ∀ (v : Value) (xs : List UInt8) (w : World), Bytes w v xs →
    Calls Tryz.prog 120 #[v, .int .i64 (d : Int)] w (RReadPost d xs w) := by
  intro d
  induction d using Nat.strongRecOn with
  | _ d ih =>
  intro hd v xs w hb
  have HB := Lib.hid hb
  obtain ⟨a, cap, rfl, hcap, hcm, -⟩ := id hb
  have hlm := hb.length_le
  have IH := Lib.hid ih
  clear hb ih
  generalize hDD : (d : Int) = DD
  have hE0 := (Ext.refl w).alloc (.cells #[.int .u8 0, .int .i64 0, .string { data := #[] }, .slice none 0 0] 43)
  have hb0 : Box4 (w.alloc (.cells #[.int .u8 0, .int .i64 0, .string { data := #[] }, .slice none 0 0] 43)) w.heap.size (.int .u8 0) (.int .i64 0) (.string { data := #[] }) (.slice none 0 0) := Box4.new w _ _ _ _
  have hz0 : (w.alloc (.cells #[.int .u8 0, .int .i64 0, .string { data := #[] }, .slice none 0 0] 43)).heap.size = w.heap.size + 1 := by simp
  have HZ0 := Lib.hid hz0
  clear hz0
  go_enter Tryz.func120, Tryz.ntmps120
  go_wp2_with fail
  generalize w.alloc (.cells #[.int .u8 0, .int .i64 0, .string { data := #[] }, .slice none 0 0] 43) = W1 at *
  refine (rtakeNum_any _ xs W1 (HB.out.ext hE0)).mono ?_
  rintro e w1 ⟨hp, rfl⟩
  obtain ⟨p0, p1, p2, p3⟩ := hb0.cells
  obtain ⟨q0, q1, q2, q3⟩ := hb0.frozen
  have HE0 := Lib.hid hE0
  have HB0 := Lib.hid hb0
  clear hE0 hb0
  cases hN : takeN xs with
  | none =>
    rw [hN] at hp
    subst hp
    have HF := Lib.hid (rreadT_hd (d := d) (hdN_none hN)); clear hN
    go_wp2
    obtain ⟨g1, g2, g3⟩ := rread_none HE0.out HF.out HB0.out
    change bodyPost _ _ _ _ _ (set4W W1 w.heap.size (.int .u8 0) (.int .i64 0) (.string { data := #[] }) (.slice none 0 0))
    generalize set4W W1 w.heap.size (.int .u8 0) (.int .i64 0) (.string { data := #[] }) (.slice none 0 0) = Wn at *
    obtain ⟨y0, y1, y2, y3⟩ := g2.cells
    refine bodyPost_ret (v := .tuple #[.agg #[.int .u8 0, .int .i64 0, .string { data := #[] }, .slice none 0 0], .int .i64 0]) (by simp [results, Tryz.results120, go_sem, y0, y1, y2, y3]) rfl ?_
    exact g3
  | some p =>
    obtain ⟨kd, k⟩ := p
    rw [hN] at hp
    simp only at hp
    subst hp
    obtain ⟨hkd, hk0, hk10, hkl, -, -⟩ := takeN_inv hN
    unfold isI64 at hkd
    obtain ⟨hkd1, hkd2⟩ := hkd
    have HN' := Lib.hid (hdN_some hN)
    have hkz : ((k : Int) == 0) = false := by simp; omega
    clear hN
    by_cases b1 : kd < 0
    · have HF := Lib.hid (rreadT_bad (d := d) HN'.out (.inl b1))
      go_wp2
      obtain ⟨g1, g2, g3⟩ := rread_none HE0.out HF.out HB0.out
      change bodyPost _ _ _ _ _ (set4W W1 w.heap.size (.int .u8 0) (.int .i64 0) (.string { data := #[] }) (.slice none 0 0))
      generalize set4W W1 w.heap.size (.int .u8 0) (.int .i64 0) (.string { data := #[] }) (.slice none 0 0) = Wn at *
      obtain ⟨y0, y1, y2, y3⟩ := g2.cells
      refine bodyPost_ret (v := .tuple #[.agg #[.int .u8 0, .int .i64 0, .string { data := #[] }, .slice none 0 0], .int .i64 0]) (by simp [results, Tryz.results120, go_sem, y0, y1, y2, y3]) rfl ?_
      exact g3
    by_cases b2 : 2 < kd
    · have HF := Lib.hid (rreadT_bad (d := d) HN'.out (.inr (.inl b2)))
      go_wp2
      obtain ⟨g1, g2, g3⟩ := rread_none HE0.out HF.out HB0.out
      change bodyPost _ _ _ _ _ (set4W W1 w.heap.size (.int .u8 0) (.int .i64 0) (.string { data := #[] }) (.slice none 0 0))
      generalize set4W W1 w.heap.size (.int .u8 0) (.int .i64 0) (.string { data := #[] }) (.slice none 0 0) = Wn at *
      obtain ⟨y0, y1, y2, y3⟩ := g2.cells
      refine bodyPost_ret (v := .tuple #[.agg #[.int .u8 0, .int .i64 0, .string { data := #[] }, .slice none 0 0], .int .i64 0]) (by simp [results, Tryz.results120, go_sem, y0, y1, y2, y3]) rfl ?_
      exact g3
    by_cases b3 : d = 0
    · have HF := Lib.hid (rreadT_bad (d := d) HN'.out (.inr (.inr b3)))
      have hdz : (DD == 0) = true := by simp; omega
      clear hDD b3
      go_wp2
      obtain ⟨g1, g2, g3⟩ := rread_none HE0.out HF.out HB0.out
      change bodyPost _ _ _ _ _ (set4W W1 w.heap.size (.int .u8 0) (.int .i64 0) (.string { data := #[] }) (.slice none 0 0))
      generalize set4W W1 w.heap.size (.int .u8 0) (.int .i64 0) (.string { data := #[] }) (.slice none 0 0) = Wn at *
      obtain ⟨y0, y1, y2, y3⟩ := g2.cells
      refine bodyPost_ret (v := .tuple #[.agg #[.int .u8 0, .int .i64 0, .string { data := #[] }, .slice none 0 0], .int .i64 0]) (by simp [results, Tryz.results120, go_sem, y0, y1, y2, y3]) rfl ?_
      exact g3
    have hdz : (DD == 0) = false := by simp; omega
    have hd1 : IntKind.i64.wrap (DD - 1) = ((d - 1 : Nat) : Int) := by rw [IntWalk.i64_in _ (by omega)]; omega
    have HD0 : Hid (0 < d) := Lib.hid (by omega)
    have HDd : Hid (d ≤ 100) := Lib.hid hd
    clear hDD b3 hd
    have hk00 : (0 : Int) ≤ (k : Int) := by omega
    have hkll : (k : Int) ≤ (xs.length : Int) := by omega
    have hsk := fun w' => slice_from a xs.length cap (k : Int) hk00 hkll w'
    rw [Int.toNat_natCast] at hsk
    have HDB : Hid (∀ wx, Ext w wx → Bytes wx (dropV (.slice a xs.length cap) k) (xs.drop k)) := Lib.hid (fun wx h => (HB.out.ext h).drop (by omega))
    have hV : w.heap.size ≠ W1.heap.size := by have := HB0.out.lt; omega
    rcases (by omega : kd = 1 ∨ kd = 0 ∨ kd = 2) with rfl | rfl | rfl
    · go_wp2_with fail
      have hE2 := Lib.hid (HE0.out.alloc (.cells #[.int .u8 1, .int .i64 0, .string { data := #[] }, .slice none 0 0] 43))
      have hb2 := HB0.out.ext ((Ext.refl W1).alloc (.cells #[.int .u8 1, .int .i64 0, .string { data := #[] }, .slice none 0 0] 43))
      have hv2 : Box4 (W1.alloc (.cells #[.int .u8 1, .int .i64 0, .string { data := #[] }, .slice none 0 0] 43)) W1.heap.size (.int .u8 1) (.int .i64 0) (.string { data := #[] }) (.slice none 0 0) := Box4.new W1 _ _ _ _
      generalize W1.alloc (.cells #[.int .u8 1, .int .i64 0, .string { data := #[] }, .slice none 0 0] 43) = W2 at *
      refine (rtakeText_any _ (xs.drop k) 100 (by unfold isI64; omega) W2 (HDB.out _ hE2.out)).mono ?_
      rintro e w2 ⟨hp, rfl⟩
      have hsz2 := hv2.lt
      obtain ⟨p0, p1, p2, p3⟩ := hb2.cells
      obtain ⟨q0, q1, q2, q3⟩ := hb2.frozen
      obtain ⟨s0, s1, s2, s3⟩ := hv2.cells
      obtain ⟨u0, u1, u2, u3⟩ := hv2.frozen
      have HB2 := Lib.hid hb2
      have HV2 := Lib.hid hv2
      have HTX := Lib.hid (rreadT_text HN'.out HD0.out)
      clear hb2 hv2
      cases hX : takeT (xs.drop k) 100 with
      | none =>
        rw [hX] at hp
        subst hp
        have HF : Hid (rreadT d xs = none) := Lib.hid (by rw [HTX.out, hdT_none hX])
        have HE3 := Lib.hid (hE2.out.setCell (p := ⟨W1.heap.size, 2, none⟩) HE0.out.size (.string (str [])))
        have HB3 := Lib.hid (HB2.out.other (Ne.symm hV) 2 (.string (str [])))
        have q0' := HB3.out.frozen.1; have q1' := HB3.out.frozen.2.1; have q2' := HB3.out.frozen.2.2.1; have q3' := HB3.out.frozen.2.2.2
        have p0' := HB3.out.cells.1; have p1' := HB3.out.cells.2.1; have p2' := HB3.out.cells.2.2.1; have p3' := HB3.out.cells.2.2.2
        clear hX
        go_wp2
        generalize W2.setCell ⟨W1.heap.size, 2, none⟩ (.string (str [])) = W3 at *
        obtain ⟨g1, g2, g3⟩ := rread_none HE3.out HF.out HB3.out
        change bodyPost _ _ _ _ _ (set4W W3 w.heap.size (.int .u8 0) (.int .i64 0) (.string { data := #[] }) (.slice none 0 0))
        generalize set4W W3 w.heap.size (.int .u8 0) (.int .i64 0) (.string { data := #[] }) (.slice none 0 0) = Wn at *
        obtain ⟨y0, y1, y2, y3⟩ := g2.cells
        refine bodyPost_ret (v := .tuple #[.agg #[.int .u8 0, .int .i64 0, .string { data := #[] }, .slice none 0 0], .int .i64 0]) (by simp [results, Tryz.results120, go_sem, y0, y1, y2, y3]) rfl ?_
        exact g3
      | some p =>
        obtain ⟨k2, n2⟩ := p
        rw [hX] at hp
        subst hp
        obtain ⟨-, hn2, hkn2⟩ := takeT_inv hX
        have hkn3 : k + (k2 + n2) ≤ xs.length := by rw [List.length_drop] at hkn2; omega
        have HF : Hid (rreadT d xs = some (.node 1 0 (((xs.drop k).drop k2).take n2) [], xs.drop (k + (k2 + n2)))) := Lib.hid (by
          rw [HTX.out, hdT_some hX]; simp only [List.drop_drop, Nat.add_assoc])
        obtain ⟨S, hS⟩ : ∃ S, S = ((xs.drop k).drop k2).take n2 := ⟨_, rfl⟩
        have hSl : S.length ≤ 9223372036854775807 := by rw [hS]; simp; omega
        rw [← hS] at HF ⊢
        have HE3 := Lib.hid (hE2.out.setCell (p := ⟨W1.heap.size, 2, none⟩) HE0.out.size (.string (str S)))
        have HB3 := Lib.hid (HB2.out.other (Ne.symm hV) 2 (.string (str S)))
        have HV3 := Lib.hid (HV2.out.set2 (.string (str S)))
        have HO3 : Hid (OwnT 43 (W2.setCell ⟨W1.heap.size, 2, none⟩ (.string (str S))) (w.heap.size + 1) (.node 1 0 S []) (.agg #[.int .u8 1, .int .i64 0, .string (str S), .slice none 0 0])) :=
          Lib.hid (OwnT.mk (k := 1) (by unfold isI64; omega) hSl (OwnL.nil _ _ _))
        have q0' := HB3.out.frozen.1; have q1' := HB3.out.frozen.2.1; have q2' := HB3.out.frozen.2.2.1; have q3' := HB3.out.frozen.2.2.2
        have p0' := HB3.out.cells.1; have p1' := HB3.out.cells.2.1; have p2' := HB3.out.cells.2.2.1; have p3' := HB3.out.cells.2.2.2
        have s0' := HV3.out.cells.1; have s1' := HV3.out.cells.2.1; have s2' := HV3.out.cells.2.2.1; have s3' := HV3.out.cells.2.2.2
        have hadd : IntKind.i64.wrap ((k : Int) + ((k2 : Int) + (n2 : Int))) = ((k + (k2 + n2) : Nat) : Int) := by rw [IntWalk.i64_in _ (by omega)]; omega
        have HKN : Hid (k + (k2 + n2) ≤ xs.length) := Lib.hid hkn3
        clear hX hS hSl hkn2 hn2
        go_wp2
        generalize W2.setCell ⟨W1.heap.size, 2, none⟩ (.string (str S)) = W3 at *
        obtain ⟨g1, g2, g3⟩ := rread_some HE3.out HF.out HB3.out HO3.out (by omega) (k + (k2 + n2)) (by omega) HKN.out rfl
        change bodyPost _ _ _ _ _ (set4W W3 w.heap.size (.int .u8 1) (.int .i64 0) (.string (str S)) (.slice none 0 0))
        generalize set4W W3 w.heap.size (.int .u8 1) (.int .i64 0) (.string (str S)) (.slice none 0 0) = Wn at *
        obtain ⟨y0, y1, y2, y3⟩ := g2.cells
        refine bodyPost_ret (v := .tuple #[.agg #[.int .u8 1, .int .i64 0, .string (str S), .slice none 0 0], .int .i64 ((k : Int) + ((k2 : Int) + (n2 : Int)))]) (by simp [results, Tryz.results120, go_sem, y0, y1, y2, y3]) rfl ?_
        rw [show ((k : Int) + ((k2 : Int) + (n2 : Int)) : Int) = ((k + (k2 + n2) : Nat) : Int) by omega]
        exact g3
    · go_wp2_with fail
      have hE2 := Lib.hid (HE0.out.alloc (.cells #[.int .u8 0, .int .i64 0, .string { data := #[] }, .slice none 0 0] 43))
      have hb2 := HB0.out.ext ((Ext.refl W1).alloc (.cells #[.int .u8 0, .int .i64 0, .string { data := #[] }, .slice none 0 0] 43))
      have hv2 : Box4 (W1.alloc (.cells #[.int .u8 0, .int .i64 0, .string { data := #[] }, .slice none 0 0] 43)) W1.heap.size (.int .u8 0) (.int .i64 0) (.string { data := #[] }) (.slice none 0 0) := Box4.new W1 _ _ _ _
      have hZ2 : (W1.alloc (.cells #[.int .u8 0, .int .i64 0, .string { data := #[] }, .slice none 0 0] 43)).heap.size = w.heap.size + 2 := by have := HZ0.out; simp; omega
      generalize W1.alloc (.cells #[.int .u8 0, .int .i64 0, .string { data := #[] }, .slice none 0 0] 43) = W2 at *
      refine (rtakeNum_any _ (xs.drop k) W2 (HDB.out _ hE2.out)).mono ?_
      rintro e w2 ⟨hp, rfl⟩
      have hsz2 := hv2.lt
      obtain ⟨p0, p1, p2, p3⟩ := hb2.cells
      obtain ⟨q0, q1, q2, q3⟩ := hb2.frozen
      obtain ⟨s0, s1, s2, s3⟩ := hv2.cells
      obtain ⟨u0, u1, u2, u3⟩ := hv2.frozen
      have HB2 := Lib.hid hb2
      have HV2 := Lib.hid hv2
      have HZ2 := Lib.hid hZ2
      clear hb2 hv2 hZ2
      cases hX : takeN (xs.drop k) with
      | none =>
        rw [hX] at hp
        subst hp
        have HF : Hid (rreadT d xs = none) := Lib.hid (rreadT_none2 HN'.out (by omega) (hdN_none hX))
        clear hX
        go_wp2
        obtain ⟨g1, g2, g3⟩ := rread_none hE2.out HF.out HB2.out
        change bodyPost _ _ _ _ _ (set4W W2 w.heap.size (.int .u8 0) (.int .i64 0) (.string { data := #[] }) (.slice none 0 0))
        generalize set4W W2 w.heap.size (.int .u8 0) (.int .i64 0) (.string { data := #[] }) (.slice none 0 0) = Wn at *
        obtain ⟨y0, y1, y2, y3⟩ := g2.cells
        refine bodyPost_ret (v := .tuple #[.agg #[.int .u8 0, .int .i64 0, .string { data := #[] }, .slice none 0 0], .int .i64 0]) (by simp [results, Tryz.results120, go_sem, y0, y1, y2, y3]) rfl ?_
        exact g3
      | some p =>
        obtain ⟨n2, k2⟩ := p
        rw [hX] at hp
        simp only at hp
        subst hp
        obtain ⟨hn2, hk20, hk2x, hk2l, -, -⟩ := takeN_inv hX
        have hkn3 : k + k2 ≤ xs.length := by rw [List.length_drop] at hk2l; omega
        have hk2z : ((k2 : Int) == 0) = false := by simp; omega
        have HX' : Hid (hdN (xs.drop k) = some (n2, xs.drop (k + k2))) := Lib.hid (by rw [hdN_some hX, List.drop_drop])
        have hadd : IntKind.i64.wrap ((k : Int) + (k2 : Int)) = (k : Int) + (k2 : Int) := IntWalk.i64_in _ (by omega)
        have HKN := Lib.hid hkn3
        have HN2 := Lib.hid hn2
        unfold isI64 at hn2
        obtain ⟨hn21, hn22⟩ := hn2
        clear hX hk2l
        have HF : Hid (rreadT d xs = some (.node 0 n2 [] [], xs.drop (k + k2))) := Lib.hid (rreadT_num HN'.out HD0.out HX'.out)
        have HE3 := Lib.hid (hE2.out.setCell (p := ⟨W1.heap.size, 1, none⟩) HE0.out.size (.int .i64 n2))
        have HB3 := Lib.hid (HB2.out.other (Ne.symm hV) 1 (.int .i64 n2))
        have HV3 := Lib.hid (HV2.out.set1 (.int .i64 n2))
        have HO3 : Hid (OwnT 43 (W2.setCell ⟨W1.heap.size, 1, none⟩ (.int .i64 n2)) (w.heap.size + 1) (.node 0 n2 [] []) (.agg #[.int .u8 0, .int .i64 n2, .string { data := #[] }, .slice none 0 0])) :=
          Lib.hid (OwnT.mk (k := 0) (s := []) HN2.out (by simp) (OwnL.nil _ _ _))
        have q0' := HB3.out.frozen.1; have q1' := HB3.out.frozen.2.1; have q2' := HB3.out.frozen.2.2.1; have q3' := HB3.out.frozen.2.2.2
        have p0' := HB3.out.cells.1; have p1' := HB3.out.cells.2.1; have p2' := HB3.out.cells.2.2.1; have p3' := HB3.out.cells.2.2.2
        have s0' := HV3.out.cells.1; have s1' := HV3.out.cells.2.1; have s2' := HV3.out.cells.2.2.1; have s3' := HV3.out.cells.2.2.2
        go_wp2
        generalize W2.setCell ⟨W1.heap.size, 1, none⟩ (.int .i64 n2) = W3 at *
        obtain ⟨g1, g2, g3⟩ := rread_some HE3.out HF.out HB3.out HO3.out (by omega) (k + k2) (by omega) HKN.out rfl
        change bodyPost _ _ _ _ _ (set4W W3 w.heap.size (.int .u8 0) (.int .i64 n2) (.string { data := #[] }) (.slice none 0 0))
        generalize set4W W3 w.heap.size (.int .u8 0) (.int .i64 n2) (.string { data := #[] }) (.slice none 0 0) = Wn at *
        obtain ⟨y0, y1, y2, y3⟩ := g2.cells
        refine bodyPost_ret (v := .tuple #[.agg #[.int .u8 0, .int .i64 n2, .string { data := #[] }, .slice none 0 0], .int .i64 ((k : Int) + (k2 : Int))]) (by simp [results, Tryz.results120, go_sem, y0, y1, y2, y3]) rfl ?_
        rw [show ((k : Int) + (k2 : Int) : Int) = ((k + k2 : Nat) : Int) by omega]
        exact g3
    · go_wp2_with fail
      have hE2 := Lib.hid (HE0.out.alloc (.cells #[.int .u8 2, .int .i64 0, .string { data := #[] }, .slice none 0 0] 43))
      have hb2 := HB0.out.ext ((Ext.refl W1).alloc (.cells #[.int .u8 2, .int .i64 0, .string { data := #[] }, .slice none 0 0] 43))
      have hv2 : Box4 (W1.alloc (.cells #[.int .u8 2, .int .i64 0, .string { data := #[] }, .slice none 0 0] 43)) W1.heap.size (.int .u8 2) (.int .i64 0) (.string { data := #[] }) (.slice none 0 0) := Box4.new W1 _ _ _ _
      have hZ2 : (W1.alloc (.cells #[.int .u8 2, .int .i64 0, .string { data := #[] }, .slice none 0 0] 43)).heap.size = w.heap.size + 2 := by have := HZ0.out; simp; omega
      generalize W1.alloc (.cells #[.int .u8 2, .int .i64 0, .string { data := #[] }, .slice none 0 0] 43) = W2 at *
      refine (rtakeNum_any _ (xs.drop k) W2 (HDB.out _ hE2.out)).mono ?_
      rintro e w2 ⟨hp, rfl⟩
      have hsz2 := hv2.lt
      obtain ⟨p0, p1, p2, p3⟩ := hb2.cells
      obtain ⟨q0, q1, q2, q3⟩ := hb2.frozen
      obtain ⟨s0, s1, s2, s3⟩ := hv2.cells
      obtain ⟨u0, u1, u2, u3⟩ := hv2.frozen
      have HB2 := Lib.hid hb2
      have HV2 := Lib.hid hv2
      have HZ2 := Lib.hid hZ2
      clear hb2 hv2 hZ2
      cases hX : takeN (xs.drop k) with
      | none =>
        rw [hX] at hp
        subst hp
        have HF : Hid (rreadT d xs = none) := Lib.hid (rreadT_none2 HN'.out (by omega) (hdN_none hX))
        clear hX
        go_wp2
        obtain ⟨g1, g2, g3⟩ := rread_none hE2.out HF.out HB2.out
        change bodyPost _ _ _ _ _ (set4W W2 w.heap.size (.int .u8 0) (.int .i64 0) (.string { data := #[] }) (.slice none 0 0))
        generalize set4W W2 w.heap.size (.int .u8 0) (.int .i64 0) (.string { data := #[] }) (.slice none 0 0) = Wn at *
        obtain ⟨y0, y1, y2, y3⟩ := g2.cells
        refine bodyPost_ret (v := .tuple #[.agg #[.int .u8 0, .int .i64 0, .string { data := #[] }, .slice none 0 0], .int .i64 0]) (by simp [results, Tryz.results120, go_sem, y0, y1, y2, y3]) rfl ?_
        exact g3
      | some p =>
        obtain ⟨n2, k2⟩ := p
        rw [hX] at hp
        simp only at hp
        subst hp
        obtain ⟨hn2, hk20, hk2x, hk2l, -, -⟩ := takeN_inv hX
        have hkn3 : k + k2 ≤ xs.length := by rw [List.length_drop] at hk2l; omega
        have hk2z : ((k2 : Int) == 0) = false := by simp; omega
        have HX' : Hid (hdN (xs.drop k) = some (n2, xs.drop (k + k2))) := Lib.hid (by rw [hdN_some hX, List.drop_drop])
        have hadd : IntKind.i64.wrap ((k : Int) + (k2 : Int)) = (k : Int) + (k2 : Int) := IntWalk.i64_in _ (by omega)
        have HKN := Lib.hid hkn3
        have HN2 := Lib.hid hn2
        unfold isI64 at hn2
        obtain ⟨hn21, hn22⟩ := hn2
        clear hX hk2l
        by_cases c1 : n2 < 0 ∨ 40 < n2
        · have HF : Hid (rreadT d xs = none) := Lib.hid (by
            obtain ⟨e, he⟩ : ∃ e, d = e + 1 := ⟨d - 1, by have := HD0.out; omega⟩
            rw [he, rreadT_list HN'.out HX'.out, if_pos c1])
          by_cases c2 : n2 < 0
          · go_wp2
            obtain ⟨g1, g2, g3⟩ := rread_none hE2.out HF.out HB2.out
            change bodyPost _ _ _ _ _ (set4W W2 w.heap.size (.int .u8 0) (.int .i64 0) (.string { data := #[] }) (.slice none 0 0))
            generalize set4W W2 w.heap.size (.int .u8 0) (.int .i64 0) (.string { data := #[] }) (.slice none 0 0) = Wn at *
            obtain ⟨y0, y1, y2, y3⟩ := g2.cells
            refine bodyPost_ret (v := .tuple #[.agg #[.int .u8 0, .int .i64 0, .string { data := #[] }, .slice none 0 0], .int .i64 0]) (by simp [results, Tryz.results120, go_sem, y0, y1, y2, y3]) rfl ?_
            exact g3
          · have c3 : 40 < n2 := by omega
            go_wp2
            obtain ⟨g1, g2, g3⟩ := rread_none hE2.out HF.out HB2.out
            change bodyPost _ _ _ _ _ (set4W W2 w.heap.size (.int .u8 0) (.int .i64 0) (.string { data := #[] }) (.slice none 0 0))
            generalize set4W W2 w.heap.size (.int .u8 0) (.int .i64 0) (.string { data := #[] }) (.slice none 0 0) = Wn at *
            obtain ⟨y0, y1, y2, y3⟩ := g2.cells
            refine bodyPost_ret (v := .tuple #[.agg #[.int .u8 0, .int .i64 0, .string { data := #[] }, .slice none 0 0], .int .i64 0]) (by simp [results, Tryz.results120, go_sem, y0, y1, y2, y3]) rfl ?_
            exact g3
        · have c2 : ¬ n2 < 0 := by omega
          have c3 : ¬ 40 < n2 := by omega
          obtain ⟨N, rfl⟩ : ∃ N : Nat, n2 = (N : Int) := ⟨n2.toNat, by omega⟩
          obtain ⟨X, hX⟩ : ∃ X, X = rreadL (rreadT (d - 1)) N 1 (xs.drop (k + k2)) := ⟨_, rfl⟩
          have hkey : rreadT d xs = match rreadL (rreadT (d - 1)) N 1 (xs.drop (k + k2)) with | none => none | some (l, r'') => some (.node 2 0 [] l, r'') := by
            obtain ⟨e, rfl⟩ : ∃ e, d = e + 1 := ⟨d - 1, by have := HD0.out; omega⟩
            rw [rreadT_list HN'.out HX'.out, if_neg c1]; rfl
          rw [← hX] at hkey
          have HFn : Hid (X = none → rreadT d xs = none) := Lib.hid (fun h => by rw [hkey, h])
          have HFs : Hid (∀ l r, X = some (l, r) → rreadT d xs = some (.node 2 0 [] l, r)) := Lib.hid (fun l r h => by rw [hkey, h])
          have HRL : Hid (RL (rreadT (d - 1)) N X [] (xs.drop (k + k2))) := Lib.hid (by rw [hX]; exact RL.start _ _ _)
          have HN40 : N ≤ 40 := by omega
          clear hX c1 hkey
          go_wp2_with fail
          clear p0 p1 p2 p3 q0 q1 q2 q3 s0 s1 s2 s3 u0 u1 u2 u3
          go_loopw [7, 14] (fun A i wr => ∃ (l : List Tr) (AA : Nat) (dv : Value), l.length ≤ N ∧ A = .int .i64 AA ∧ i = .int .i64 l.length ∧ AA ≤ xs.length ∧ 0 < AA ∧ Hid (RL (rreadT (d - 1)) N X l (xs.drop AA)) ∧ Hid (partsL l ≤ 200) ∧ Hid (Ext w wr) ∧ Hid (Box4 wr W1.heap.size (.int .u8 2) (.int .i64 0) (.string { data := #[] }) dv) ∧ Hid (Box4 wr w.heap.size (.int .u8 0) (.int .i64 0) (.string { data := #[] }) (.slice none 0 0)) ∧ Hid (OwnL 43 wr (w.heap.size + 2) l dv) ∧ w.heap.size + 2 ≤ wr.heap.size) (fun _ i _ => N - (intOf i).toNat)
          case atStart => exact ⟨[], k + k2, _, by simp, by go_num, rfl, HKN.out, by omega, HRL, Lib.hid (by rw [partsL_nil]; omega), hE2, HV2, HB2, Lib.hid (OwnL.nil _ _ _), by have := HZ2.out; omega⟩
          case round =>
            clear HRL HV2 HB2 hE2 HZ2 HKN
            obtain ⟨l, AA, dv, hl, rfl, rfl, hAA, hA0, HRL, HPl, HE, HV, HBx, HO, hbr⟩ := hrel
            obtain ⟨ad, cd, rfl⟩ : ∃ a cap, dv = .slice a l.length cap := by
              obtain ⟨F, h⟩ := HO.out
              exact h.slice
            obtain ⟨L, hL⟩ : ∃ L, L = l.length := ⟨_, rfl⟩
            have HL := Lib.hid hL
            rw [← hL] at hl HV HO ⊢
            clear hL
            by_cases hlt : L < N
            · have hAA0 : (0 : Int) ≤ (AA : Int) := by omega
              have hAA1 : (AA : Int) ≤ (xs.length : Int) := by omega
              have hsk2 := fun w' => slice_from a xs.length cap (AA : Int) hAA0 hAA1 w'
              rw [Int.toNat_natCast] at hsk2
              have hlti : (L : Int) < (N : Int) := by omega
              clear hsk
              go_wp2_with fail
              refine (IH.out (d - 1) (by have := HD0.out; omega) (by have := HDd.out; omega) _ (xs.drop AA) wr ((HB.out.ext HE.out).drop hAA)).mono ?_
              intro e w4 hp4
              unfold RReadPost at hp4
              cases hR : rreadT (d - 1) (xs.drop AA) with
              | none =>
                rw [hR] at hp4
                obtain ⟨rfl, hE4⟩ := hp4
                have HF : Hid (rreadT d xs = none) := Lib.hid (HFn.out (HRL.out.none (by rw [← HL.out]; exact hlt) hR))
                have HE4 := Lib.hid ((HE.out.trans hE4).alloc (.cells #[.int .u8 0, .int .i64 0, .string { data := #[] }, .slice none 0 0] 43))
                have HB4 := Lib.hid ((HBx.out.ext hE4).ext ((Ext.refl w4).alloc (.cells #[.int .u8 0, .int .i64 0, .string { data := #[] }, .slice none 0 0] 43)))
                have hB4f := HB4.out.frozen
                have hB4c := HB4.out.cells
                obtain ⟨p0, p1, p2, p3⟩ := hB4c
                obtain ⟨q0, q1, q2, q3⟩ := hB4f
                clear hR
                go_wp2
                generalize w4.alloc (.cells #[.int .u8 0, .int .i64 0, .string { data := #[] }, .slice none 0 0] 43) = W5 at *
                obtain ⟨g1, g2, g3⟩ := rread_none HE4.out HF.out HB4.out
                change bodyPost _ _ _ _ _ (set4W W5 w.heap.size (.int .u8 0) (.int .i64 0) (.string { data := #[] }) (.slice none 0 0))
                generalize set4W W5 w.heap.size (.int .u8 0) (.int .i64 0) (.string { data := #[] }) (.slice none 0 0) = Wn at *
                obtain ⟨y0, y1, y2, y3⟩ := g2.cells
                refine bodyPost_ret (v := .tuple #[.agg #[.int .u8 0, .int .i64 0, .string { data := #[] }, .slice none 0 0], .int .i64 0]) (by simp [results, Tryz.results120, go_sem, y0, y1, y2, y3]) rfl ?_
                exact g3
              | some p =>
                obtain ⟨tt, r⟩ := p
                rw [hR] at hp4
                obtain ⟨v4, A2, rfl, hA20, hA2l, rfl, hE4, hO4⟩ := hp4
                obtain ⟨k4, n4, s4, a4, m4, c4, rfl⟩ := ownT_four hO4
                rw [List.length_drop] at hA2l
                have hA2z : ((A2 : Int) == 0) = false := by simp; omega
                obtain ⟨-, -, -, -, hpt⟩ := rreadT_inv _ _ _ _ hR
                rw [List.drop_drop] at hR
                have HRR := Lib.hid hR
                have HPT := Lib.hid hpt
                have hlt4 := HV.out.lt
                have hz4 := hE4.size
                obtain ⟨xsr, hrow⟩ := HO.out.row
                rw [← HL.out] at hrow
                have hE5 := hE4.alloc (.cells #[.int .u8 k4, .int .i64 n4, .string s4, .slice a4 m4 c4] 43)
                have hx5 : Box4 (w4.alloc (.cells #[.int .u8 k4, .int .i64 n4, .string s4, .slice a4 m4 c4] 43)) w4.heap.size (.int .u8 k4) (.int .i64 n4) (.string s4) (.slice a4 m4 c4) := Box4.new w4 _ _ _ _
                have hO5 := hO4.ext ((Ext.refl w4).alloc (.cells #[.int .u8 k4, .int .i64 n4, .string s4, .slice a4 m4 c4] 43))
                have hz5 : (w4.alloc (.cells #[.int .u8 k4, .int .i64 n4, .string s4, .slice a4 m4 c4] 43)).heap.size = w4.heap.size + 1 := by simp
                have HZ5 := Lib.hid hz5
                have hV4 := HV.out.ext hE4
                have hV5 := hV4.ext ((Ext.refl w4).alloc (.cells #[.int .u8 k4, .int .i64 n4, .string s4, .slice a4 m4 c4] 43))
                have s3 := hV4.cells.2.2.2
                have s3' := hV5.cells.2.2.2
                have HV5 := Lib.hid hV5
                have hltv : W1.heap.size < w4.heap.size := hV4.lt
                clear hR hpt hz5 hV4 hV5
                have HR6 : Hid (((w4.alloc (.cells #[.int .u8 k4, .int .i64 n4, .string s4, .slice a4 m4 c4] 43)).alloc (.cells #[.int .u8 k4, .int .i64 n4, .string s4, .slice a4 m4 c4] 43)).ownsRow (w.heap.size + 2) 43 4 (.slice ad L cd) L xsr) := Lib.hid (((hE4.own hrow).alloc _).alloc _)
                have HNb : Hid (((w4.alloc (.cells #[.int .u8 k4, .int .i64 n4, .string s4, .slice a4 m4 c4] 43)).alloc (.cells #[.int .u8 k4, .int .i64 n4, .string s4, .slice a4 m4 c4] 43)).heap[w4.heap.size + 1]? = some (.cells #[.int .u8 k4, .int .i64 n4, .string s4, .slice a4 m4 c4] 43 (0, 0))) := Lib.hid (by
                  have h := heap_alloc_new (w4.alloc (.cells #[.int .u8 k4, .int .i64 n4, .string s4, .slice a4 m4 c4] 43)) (.cells #[.int .u8 k4, .int .i64 n4, .string s4, .slice a4 m4 c4] 43)
                  rwa [HZ5.out] at h)
                have hb6 := hE5.size
                go_wp2_with (at_builtin; refine wpList_appAt _ elem_val rfl _ _ 41 rfl (w.heap.size + 2) _ _ _ rfl HR6.out _ 1 [.int .u8 k4, .int .i64 n4, .string s4, .slice a4 m4 c4] rfl (Src.ofSlice _ Tryz.underlying41 _ _ _ _ rfl (World.news_of_block (cs := #[.int .u8 k4, .int .i64 n4, .string s4, .slice a4 m4 c4]) (t := 43) (fr := (0, 0)) HNb.out) (by simp [Value.oneCell'])) ?c1 ?c2 ?c3 ?_)
                case c1 => unfold maxLen; omega
                case c2 => omega
                case c3 => first | omega | (simp; omega)
                intro v7 w7 hown7 hgrow7 hat7
                obtain ⟨gg, cap6, rfl⟩ := ownsRow_succ hown7
                generalize hW5 : w4.alloc (.cells #[.int .u8 k4, .int .i64 n4, .string s4, .slice a4 m4 c4] 43) = W5 at *
                clear hW5
                have hat6 : (Value.slice ad L cd).ownBlock = some gg ∨ gg = W5.heap.size + 1 := by
                  rcases hat7 with h | h
                  · exact .inl h.symm
                  · right; rw [HZ5.out]; simp [Value.ownBlock] at h; exact h
                have hZ1 := HZ0.out
                have hRo : ∀ b, (Value.slice ad L cd).ownBlock = some b → w.heap.size + 2 ≤ b := fun b hb => (HR6.out.lt b hb).1
                have hb7 := (HV5.out.ext ((Ext.refl W5).alloc (.cells #[.int .u8 k4, .int .i64 n4, .string s4, .slice a4 m4 c4] 43))).kept hgrow7 (fun e => by have := hRo _ e; omega)
                obtain ⟨y1, y2, y3, y4, y5⟩ := list_step2 (V := W1.heap.size) (Pb := w.heap.size) (base := w.heap.size + 2) (by omega) (by omega) hV (by omega) HE.out HV.out HBx.out HL.out.symm HO.out hbr hE5 (Nat.le_refl _) hO5 HR6.out hown7 hgrow7 hat6
                have s7 := hb7.cells.2.2.2
                have z7 := hb7.frozen.2.2.2
                have Y1 := Lib.hid y1
                have Y2 := Lib.hid y2
                have Y3 := Lib.hid y3
                have Y4 := Lib.hid y4
                have c0 := y2.cells.1; have c1' := y2.cells.2.1; have c2' := y2.cells.2.2.1; have c3' := y2.cells.2.2.2
                clear hZ1 y1 y2 y3 y4 hat7 hat6 hgrow7 hown7 hO5 hx5 hE5 hb7 hrow s3 s3'
                go_wp2_with fail
                have hlen : (l ++ [tt]).length = L + 1 := by rw [List.length_append, List.length_singleton, ← HL.out]
                have HLv := Lib.hid (Lies.mk (k := 2) (n := 0) (s := []) (by unfold isI64; omega) (by simp) Y4.out.lies)
                have hpp : partsT (.node 2 0 [] (l ++ [tt])) = 1 + partsL l + partsT tt := by rw [partsT_node, partsL_append, partsL_cons, partsL_nil]; omega
                generalize w7.setCell ⟨W1.heap.size, 3, none⟩ (.slice (some ⟨gg, 0, none⟩) (L + 1) cap6) = W8 at *
                refine (rparts_any _ W8 _ HLv.out (by rw [hpp]; have := HPl.out; have := HPT.out; omega)).mono ?_
                rw [hpp]
                rintro e w9 ⟨rfl, hE9⟩
                have HE9 := Lib.hid (Y1.out.trans hE9)
                have HV9 := Lib.hid (Y2.out.ext hE9)
                have HB9 := Lib.hid (Y3.out.ext hE9)
                have HO9 := Lib.hid (Y4.out.ext hE9)
                have hbr9 := Nat.le_trans (Nat.le_trans hbr y5) hE9.size
                have HLN : Hid (l.length < N) := Lib.hid (by rw [← HL.out]; exact hlt)
                have HNX : Hid (¬ 200 < 1 + partsL l + partsT tt → RL (rreadT (d - 1)) N X (l ++ [tt]) (xs.drop (AA + A2))) := Lib.hid (fun h => HRL.out.next HLN.out HRR.out h)
                have HBG : Hid (200 < 1 + partsL l + partsT tt → rreadT d xs = none) := Lib.hid (fun h => HFn.out (HRL.out.big HLN.out HRR.out h))
                have HPX : Hid (partsL (l ++ [tt]) = partsL l + partsT tt) := Lib.hid (by rw [partsL_append, partsL_cons, partsL_nil]; omega)
                have hAX : AA + A2 ≤ xs.length := by omega
                obtain ⟨PP, hPP⟩ : ∃ PP, PP = 1 + partsL l + partsT tt := ⟨_, rfl⟩
                rw [← hPP] at HNX HBG ⊢
                have HPP := Lib.hid hPP
                clear hPP hE9 hpp c0 c1' c2' c3' s7 z7
                obtain ⟨p0, p1, p2, p3⟩ := HB9.out.cells
                obtain ⟨q0, q1, q2, q3⟩ := HB9.out.frozen
                by_cases hbig : 200 < PP
                · have hbig' : (200 : Int) < (PP : Int) := by omega
                  have HF := Lib.hid (HBG.out hbig)
                  go_wp2
                  obtain ⟨g1, g2, g3⟩ := rread_none HE9.out HF.out HB9.out
                  change bodyPost _ _ _ _ _ (set4W w9 w.heap.size (.int .u8 0) (.int .i64 0) (.string { data := #[] }) (.slice none 0 0))
                  generalize set4W w9 w.heap.size (.int .u8 0) (.int .i64 0) (.string { data := #[] }) (.slice none 0 0) = Wn at *
                  obtain ⟨y0, y1, y2, y3⟩ := g2.cells
                  refine bodyPost_ret (v := .tuple #[.agg #[.int .u8 0, .int .i64 0, .string { data := #[] }, .slice none 0 0], .int .i64 0]) (by simp [results, Tryz.results120, go_sem, y0, y1, y2, y3]) rfl ?_
                  exact g3
                · have hbig' : ¬ (200 : Int) < (PP : Int) := by omega
                  go_wp2
                  go_roundw
                  case rel => exact ⟨l ++ [tt], AA + A2, _, by omega, by go_num, by rw [hlen]; go_num, hAX, by omega, Lib.hid (HNX.out hbig), Lib.hid (by have := HPX.out; have := HPP.out; omega), HE9, HV9, HB9, HO9, hbr9⟩
                  case measure => simp [intOf]; omega
            · have hLN : L = N := by omega
              have HF : Hid (rreadT d xs = some (.node 2 0 [] l, xs.drop AA)) := Lib.hid (HFs.out _ _ (HRL.out.done (by rw [← HL.out]; exact hLN)))
              have HO9 : Hid (OwnT 43 wr (w.heap.size + 2) (.node 2 0 [] l) (.agg #[.int .u8 2, .int .i64 0, .string { data := #[] }, .slice ad L cd])) := Lib.hid (OwnT.mk (k := 2) (n := 0) (s := []) (by unfold isI64; omega) (by simp) HO.out)
              have hlti : ¬ (L : Int) < (N : Int) := by omega
              obtain ⟨p0, p1, p2, p3⟩ := HBx.out.cells
              obtain ⟨q0, q1, q2, q3⟩ := HBx.out.frozen
              obtain ⟨s0, s1, s2, s3⟩ := HV.out.cells
              clear hlt hLN
              go_wp2
              obtain ⟨g1, g2, g3⟩ := rread_some HE.out HF.out HBx.out HO9.out (by omega) (AA) hA0 hAA rfl
              change bodyPost _ _ _ _ _ (set4W wr w.heap.size (.int .u8 2) (.int .i64 0) (.string { data := #[] }) (.slice ad L cd))
              generalize set4W wr w.heap.size (.int .u8 2) (.int .i64 0) (.string { data := #[] }) (.slice ad L cd) = Wn at *
              obtain ⟨y0, y1, y2, y3⟩ := g2.cells
              refine bodyPost_ret (v := .tuple #[.agg #[.int .u8 2, .int .i64 0, .string { data := #[] }, .slice ad L cd], .int .i64 ((AA : Int))]) (by simp [results, Tryz.results120, go_sem, y0, y1, y2, y3]) rfl ?_
              rw [show ((AA : Int) : Int) = ((AA : Nat) : Int) by omega]
              exact g3

/-- What Take comes to. -/
def RTakePost (xs : List UInt8) (w : World) (e : Ending) (w' : World) : Prop :=
  match takeV' xs with
  | none => ∃ t v, e = .returned (.tuple #[v, .int .i64 0]) ∧ t = Tr.node 0 0 [] [] ∧ v = .agg #[.int .u8 0, .int .i64 0, .string { data := #[] }, .slice none 0 0] ∧ Ext w w'
  | some (t, r) => ∃ (v : Value) (A : Nat), e = .returned (.tuple #[v, .int .i64 A]) ∧ 0 < A ∧ A ≤ xs.length ∧ r = xs.drop A ∧ Ext w w' ∧ OwnT 43 w' w.heap.size t v

set_option maxRecDepth 100000 in
set_option maxHeartbeats 2000000 in
theorem rtakeV_any (v : Value) (xs : List UInt8) (w : World) (h : Bytes w v xs) :
    Calls Tryz.prog 95 #[v] w (RTakePost xs w) := by
  have HB := Lib.hid h
  clear h
  have hE0 := (Ext.refl w).alloc (.cells #[.int .u8 0, .int .i64 0, .string { data := #[] }, .slice none 0 0] 43)
  have hb0 : Box4 (w.alloc (.cells #[.int .u8 0, .int .i64 0, .string { data := #[] }, .slice none 0 0] 43)) w.heap.size (.int .u8 0) (.int .i64 0) (.string { data := #[] }) (.slice none 0 0) := Box4.new w _ _ _ _
  go_enter Tryz.func95, Tryz.ntmps95
  go_wp2_with fail
  generalize w.alloc (.cells #[.int .u8 0, .int .i64 0, .string { data := #[] }, .slice none 0 0] 43) = W1 at *
  refine (rread_any 6 (by omega) _ xs W1 (HB.out.ext hE0)).mono ?_
  intro e w1 hp
  unfold RReadPost at hp
  rw [rread_same] at hp
  cases hT : takeV' xs with
  | none =>
    rw [hT] at hp
    obtain ⟨rfl, hE1⟩ := hp
    have HT := Lib.hid hT
    have hb1 := hb0.ext hE1
    obtain ⟨p0, p1, p2, p3⟩ := hb1.cells
    obtain ⟨q0, q1, q2, q3⟩ := hb1.frozen
    have HE := Lib.hid (hE0.trans hE1)
    have HBx := Lib.hid hb1
    clear hT hb1 hb0 hE0 hE1
    go_wp2
    change bodyPost _ _ _ _ _ (set4W w1 w.heap.size (.int .u8 0) (.int .i64 0) (.string { data := #[] }) (.slice none 0 0))
    obtain ⟨hE2, hb2, -⟩ := set4_facts (k := .int .u8 0) (n := .int .i64 0) (s := .string { data := #[] }) (d := .slice none 0 0) HE.out HBx.out (Nat.le_refl _)
    generalize set4W w1 w.heap.size (.int .u8 0) (.int .i64 0) (.string { data := #[] }) (.slice none 0 0) = W3 at *
    obtain ⟨y0, y1, y2, y3⟩ := hb2.cells
    refine bodyPost_ret (v := .tuple #[.agg #[.int .u8 0, .int .i64 0, .string { data := #[] }, .slice none 0 0], .int .i64 0]) (by simp [results, Tryz.results95, go_sem, y0, y1, y2, y3]) rfl ?_
    unfold RTakePost; rw [HT.out]; exact ⟨_, _, rfl, rfl, rfl, hE2⟩
  | some p =>
    obtain ⟨t, r⟩ := p
    rw [hT] at hp
    obtain ⟨v1, A, rfl, hA0, hAl, hr, hE1, hO⟩ := hp
    obtain ⟨k4, n4, s4, a4, m4, c4, rfl⟩ := ownT_four hO
    have HT := Lib.hid hT
    have HR := Lib.hid hr
    have hb1 := hb0.ext hE1
    obtain ⟨p0, p1, p2, p3⟩ := hb1.cells
    obtain ⟨q0, q1, q2, q3⟩ := hb1.frozen
    have hlt := hb0.lt
    have HE := Lib.hid (hE0.trans hE1)
    have HBx := Lib.hid hb1
    have HO := Lib.hid hO
    clear hT hb1 hb0 hE0 hE1 hO hr
    go_wp2
    change bodyPost _ _ _ _ _ (set4W w1 w.heap.size (.int .u8 k4) (.int .i64 n4) (.string s4) (.slice a4 m4 c4))
    obtain ⟨hE2, hb2, hg2⟩ := set4_facts (k := .int .u8 k4) (n := .int .i64 n4) (s := .string s4) (d := .slice a4 m4 c4) HE.out HBx.out (Nat.le_refl _)
    have hO2 := (HO.out.grown hg2 (fun b hb => by injection hb with hb; omega)).mono (show w.heap.size ≤ W1.heap.size by omega)
    generalize set4W w1 w.heap.size (.int .u8 k4) (.int .i64 n4) (.string s4) (.slice a4 m4 c4) = W3 at *
    obtain ⟨y0, y1, y2, y3⟩ := hb2.cells
    refine bodyPost_ret (v := .tuple #[.agg #[.int .u8 k4, .int .i64 n4, .string s4, .slice a4 m4 c4], .int .i64 (A : Int)]) (by simp [results, Tryz.results95, go_sem, y0, y1, y2, y3]) rfl ?_
    unfold RTakePost; rw [HT.out]; exact ⟨_, A, rfl, hA0, hAl, HR.out, hE2, hO2⟩
end Go.Proofs.YtdienbcjfljjnaaGreatDoor
