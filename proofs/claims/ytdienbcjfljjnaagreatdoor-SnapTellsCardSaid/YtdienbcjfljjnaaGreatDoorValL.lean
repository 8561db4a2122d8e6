/- Walks: the reader's value, a list. -/
import Derived.Test.YtdienbcjfljjnaaGreatDoorWireR
import Derived.Test.YtdienbcjfljjnaaGreatDoorShelfF
import Derived.Deep.RegionWith
import Derived.Deep.RegionLaw
open Go.RowKit Go.Shelf
namespace Go.Proofs.YtdienbcjfljjnaaGreatDoor
open Go Go.Proofs Fm

set_option maxRecDepth 100000 in
set_option maxHeartbeats 4000000 in
theorem rbytes_any (t : Tr) : ∀ (w : World) (v : Value), Lies w t v → (bytesT t).length ≤ 1000000000 →
    Calls Tryz.prog 45 #[v] w (RetBytes w (bytesT t)) := by
  induction t using Tr.ind with
  | h k n s l ih =>
  intro w v hv hsz
  obtain ⟨d, rfl, hn, hs, hl⟩ := hv.parts
  have ⟨a, cap, hd, h1, h2, h3, C, h4, h5⟩ := hl
  subst hd
  have H4 := Lib.hid h4; have H5 := Lib.hid h5
  have hll : l.length ≤ 9223372036854775807 := by unfold maxLen at h2; omega
  have hk255 := k.toNat_lt
  have e0 := u8_eq k 0
  have e1 := u8_eq k 1
  rw [show ((0 : UInt8).toNat : Int) = 0 from rfl] at e0
  rw [show ((1 : UInt8).toNat : Int) = 1 from rfl] at e1
  have HK := Lib.hid (i64_nat k.toNat (by omega))
  have HN := Lib.hid hn
  have HT := Lib.hid (bytesT_node k n s l)
  have HZ := Lib.hid hsz
  have hK0 : (0 : Int) ≤ (k.toNat : Int) := by omega
  have hK255 : (k.toNat : Int) ≤ 255 := by omega
  clear h1 h2 h3 h4 h5 hl hn hv hsz
  have hE0 := (Ext.refl w).alloc (.cells #[.int .u8 (k.toNat : Int), .int .i64 n, .string (str s), .slice a l.length cap] 43)
  obtain ⟨m0, m1, m2, m3, hsz⟩ := alloc4 w (.int .u8 (k.toNat : Int)) (.int .i64 n) (.string (str s)) (.slice a l.length cap) 43
  generalize (k.toNat : Int) = K at *
  go_enter Tryz.func45, Tryz.ntmps45
  go_wp2_with fail
  generalize w.alloc (.cells #[.int .u8 K, .int .i64 n, .string (str s), .slice a l.length cap] 43) = W1 at *
  refine (rnum_any K HK.out W1).mono ?_
  rintro e w1 ⟨vo, rfl, ro⟩
  have hE1 := hE0.trans ro.2
  have o1 := ro.own
  have hB1 := ro.2.size
  have hB := hsz
  have q0 := (ro.2.cell (p := ⟨w.heap.size, 0, none⟩) hsz).trans m0
  have q1 := (ro.2.cell (p := ⟨w.heap.size, 1, none⟩) hsz).trans m1
  have q2 := (ro.2.cell (p := ⟨w.heap.size, 2, none⟩) hsz).trans m2
  have q3 := (ro.2.cell (p := ⟨w.heap.size, 3, none⟩) hsz).trans m3
  have hz1 := Nat.lt_of_lt_of_le hsz ro.2.size
  have hnk := numB_le K
  clear ro hE0 m0 m1 m2 m3 hsz
  generalize W1.heap.size = Z at *
  by_cases hk0 : k = 0
  · have f0 : (K == 0) = true := by rw [e0]; simpa using hk0
    have HX : Hid (bytesT (.node k n s l) = numB K ++ numB n) := Lib.hid (by rw [HT.out, if_pos hk0])
    have hnn := numB_le n
    clear e0 e1 hk0
    go_wp2_with fail
    refine (rnum_any n HN.out w1).mono ?_
    rintro e w2 ⟨v2, rfl, r2⟩
    have hE2 := hE1.trans r2.2
    have o2 := o1.ext r2.2
    have b2 := r2.bytes
    have hsz2 := Nat.le_trans hB1 r2.2.size
    clear r2 o1 q0 q1 q2 q3 hE1
    go_wp2_with (at_builtin; refine appB rfl _ _ rfl rfl o2 rfl b2 ?b1 hsz2 ?_)
    case b1 => omega
    intro v3 w3 o3 _ B3
    have hR : RetBytes w (bytesT (.node k n s l)) (.returned v3) w3 := ⟨v3, rfl, by rw [HX.out]; exact ⟨o3.mono (Nat.le_of_lt hB), hE2.then (Below.mono B3 (Nat.le_of_lt hB))⟩⟩
    clear o3 B3 o2 b2
    go_wp2
    go_ret
    exact hR
  have f0 : (K == 0) = false := by rw [e0]; simpa using hk0
  by_cases hk1 : k = 1
  · have f1 : (K == 1) = true := by rw [e1]; simpa using hk1
    have HX : Hid (bytesT (.node k n s l) = numB K ++ textB s) := Lib.hid (by rw [HT.out, if_neg hk0, if_pos hk1])
    have htl : (textB s).length ≤ 1000000000 := by have := HZ.out; rw [HX.out, List.length_append] at this; omega
    have hsl : s.length ≤ 1000000000 := by rw [textB, List.length_append] at htl; omega
    clear e0 e1 hk0 hk1
    go_wp2_with fail
    refine (rtext_any s (by omega) w1).mono ?_
    rintro e w2 ⟨v2, rfl, r2⟩
    have hE2 := hE1.trans r2.2
    have o2 := o1.ext r2.2
    have b2 := r2.bytes
    have hsz2 := Nat.le_trans hB1 r2.2.size
    clear r2 o1 q0 q1 q2 q3 hE1
    go_wp2_with (at_builtin; refine appB rfl _ _ rfl rfl o2 rfl b2 ?b1 hsz2 ?_)
    case b1 => omega
    intro v3 w3 o3 _ B3
    have hR : RetBytes w (bytesT (.node k n s l)) (.returned v3) w3 := ⟨v3, rfl, by rw [HX.out]; exact ⟨o3.mono (Nat.le_of_lt hB), hE2.then (Below.mono B3 (Nat.le_of_lt hB))⟩⟩
    clear o3 B3 o2 b2
    go_wp2
    go_ret
    exact hR
  · have f1 : (K == 1) = false := by rw [e1]; simpa using hk1
    have HX : Hid (bytesT (.node k n s l) = numB K ++ (numB l.length ++ bytesL l)) := Lib.hid (by rw [HT.out, if_neg hk0, if_neg hk1])
    have hbl : (numB K).length + (numB l.length).length + (bytesL l).length ≤ 1000000000 := by have := HZ.out; rw [HX.out, List.length_append, List.length_append] at this; omega
    have HLN := Lib.hid (i64_nat l.length hll)
    clear e0 e1 hk0 hk1
    go_wp2_with fail
    refine (rnum_any (l.length : Int) HLN.out w1).mono ?_
    rintro e w2 ⟨v2, rfl, r2⟩
    have hE2 := hE1.trans r2.2
    have o2 := o1.ext r2.2
    have b2 := r2.bytes
    have hsz2 := Nat.le_trans hB1 r2.2.size
    have q3' := (r2.2.cell (p := ⟨w.heap.size, 3, none⟩) hz1).trans q3
    have hz2 := Nat.lt_of_lt_of_le hz1 r2.2.size
    clear r2 o1 q0 q1 q2 q3 hE1
    go_wp2_with (at_builtin; refine appB rfl _ _ rfl rfl o2 rfl b2 ?b1 hsz2 ?_)
    case b1 => omega
    intro v3 w3 o3 hg3 B3
    have hE3 := hE2.then (Below.mono B3 (Nat.le_of_lt hB))
    have q3 : w3.cell? ⟨w.heap.size, 3, none⟩ = some (.slice a l.length cap) := (Below.cell B3 (p := ⟨w.heap.size, 3, none⟩) hB).trans q3'
    have hz3 := Nat.lt_of_lt_of_le hz2 hg3.size
    have hZ3 := Nat.le_trans hsz2 hg3.size
    clear B3 hg3 o2 b2 q3'
    go_wp2_with fail
    go_loopw [3, 4] (fun o i wr => ∃ j : Nat, j ≤ l.length ∧ i = .int .i64 j ∧ Hid (OwnB Z wr o (numB K ++ numB l.length ++ bytesL (l.take j))) ∧ Ext w wr ∧ wr.cell? ⟨w.heap.size, 3, none⟩ = some (.slice a l.length cap) ∧ w.heap.size < wr.heap.size ∧ Z ≤ wr.heap.size) (fun _ i _ => l.length - (intOf i).toNat)
    case atStart => exact ⟨0, by omega, rfl, Lib.hid (by rw [List.take_zero, bytesL_nil, List.append_nil]; exact o3), hE3, q3, hz3, hZ3⟩
    case round =>
      obtain ⟨j, hj, rfl, HO, hE, q3', hzr, hZr⟩ := hrel
      clear o3 q3 hE3 hE2
      by_cases hlt : j < l.length
      · obtain ⟨b', off, rfl, hb, hc⟩ := H4.out (by omega)
        obtain ⟨k0, n0, s0, a0, m0, c0, e0, e1, e2, e3, hx⟩ := elem4 hE hb hc H5.out j hlt
        have hat := bytesL_at l j hlt
        have hle := bytesL_take_le l (j + 1)
        have hlen : (bytesL (l.take (j + 1))).length = (bytesL (l.take j)).length + (bytesT l[j]).length := by rw [hat, List.length_append]
        go_wp2_with fail
        refine (ih _ (List.getElem_mem hlt) _ _ hx (by omega)).mono ?_
        rintro e w4 ⟨v4, rfl, r4⟩
        have hE4 := hE.trans r4.2
        have o4 := HO.out.ext r4.2
        have b4 := r4.bytes
        have hsz4 := Nat.le_trans hZr r4.2.size
        have q4 := (r4.2.cell (p := ⟨w.heap.size, 3, none⟩) hzr).trans q3'
        have hz4 := Nat.lt_of_lt_of_le hzr r4.2.size
        clear r4 e0 e1 e2 e3 hx hb hc HO
        go_wp2_with (at_builtin; refine appB rfl _ _ rfl rfl o4 rfl b4 ?b1 hsz4 ?_)
        case b1 => simp only [List.length_append]; omega
        intro v5 w5 o5 hg5 B5
        have hE5 := hE4.then (Below.mono B5 (Nat.le_of_lt hB))
        have q5 : w5.cell? ⟨w.heap.size, 3, none⟩ = some (.slice (some ⟨b', off, none⟩) l.length cap) := (Below.cell B5 (p := ⟨w.heap.size, 3, none⟩) hB).trans q4
        have hz5 := Nat.lt_of_lt_of_le hz4 hg5.size
        have hZ5 := Nat.le_trans hsz4 hg5.size
        have HO2 : Hid (OwnB Z w5 v5 (numB K ++ numB l.length ++ bytesL (l.take (j + 1)))) := Lib.hid (by
          rw [hat]
          simpa only [List.append_assoc] using o5)
        clear o4 o5 B5 hg5 b4 q4 hat hle hlen
        go_wp2
        go_roundw
        case rel => exact ⟨j + 1, by omega, by go_num, HO2, hE5, q5, hz5, hZ5⟩
        case measure => simp [intOf]; omega
      · have hj' : j = l.length := by omega
        have hR : ∃ vr, vr = u3 ∧ RetBytes w (bytesT (.node k n s l)) (.returned vr) wr := ⟨u3, rfl, u3, rfl, by
          have h := HO.out
          rw [hj', List.take_length] at h
          rw [HX.out, ← List.append_assoc]
          exact ⟨h.mono (Nat.le_of_lt hB), hE⟩⟩
        obtain ⟨vr, rfl, hR⟩ := hR
        clear HO hj'
        go_wp2
        go_ret
        exact hR
end Go.Proofs.YtdienbcjfljjnaaGreatDoor

open Go.RowKit Go.Shelf
namespace Go.Proofs.YtdienbcjfljjnaaGreatDoor
open Go Go.Proofs Fm

/-- A way that ends in a panic, in a region that draws: nothing is left to walk. -/
theorem panics_out {A : Prop} (w : World) (h : A) (_ : wpAny Tryz.prog .any #[] (fun _ _ _ => True) 0 #[] { tmps := #[], defers := [] } w) : A := h

theorem ValOK.two {w0 w : World} {R : Nat} {k : UInt8} {n : Int} {s : List UInt8} {l : List Tr} {xs : List UInt8} {m : Int} {e : Ending} {w' : World} (h : ValOK w0 w R (.node k n s l) xs m e w') :
    ∃ (a4 : Option Addr) (n4 c4 : Nat), e = .returned (.agg #[.int .u8 (k.toNat : Int), .int .i64 n, .string (str s), .slice a4 n4 c4]) ∧ (∃ v', RdAt w0 w' R v' xs m) ∧ w.grownBy w' (some R) ∧
      OwnT 43 w' w.heap.size (.node k n s l) (.agg #[.int .u8 (k.toNat : Int), .int .i64 n, .string (str s), .slice a4 n4 c4]) := by
  obtain ⟨v, he, h1, h2, F, h3⟩ := h
  obtain ⟨d, rfl, _, _, h4⟩ := h3.parts
  obtain ⟨a, c, rfl⟩ := h4.slice
  exact ⟨a, _, c, he, h1, h2, F, h3⟩

/-- What value comes to. -/
def ValPost (w0 w : World) (R : Nat) (o : Option (Tr × List UInt8 × Nat)) (e : Ending) (w' : World) : Prop :=
  match o with
  | none => Broken w0 w R e w'
  | some (t, r, m) => ValOK w0 w R t r m e w'
theorem info_val : (Tryz.prog.info? 43).map (fun i => (i.zero, i.size, i.bytes)) = some (some (.agg #[.int .u8 0, .int .i64 0, .string (str []), .slice none 0 0]), 4, 56) := by kernel_rfl

def preL (ts : List Tr) (o : Option (List Tr × List UInt8 × Nat)) : Option (List Tr × List UInt8 × Nat) := o.map fun p => (ts ++ p.1, p.2.1, p.2.2)
theorem preL_nil (o : Option (List Tr × List UInt8 × Nat)) : preL [] o = o := by unfold preL; cases o <;> simp
theorem preL_none {ts : List Tr} {f : Nat → List UInt8 → Option (Tr × List UInt8 × Nat)} {c m : Nat} {xs : List UInt8} (h : f m xs = none) : preL ts (readL f (c + 1) m xs) = none := by
  unfold preL; rw [readL, h]; rfl
theorem preL_some {ts : List Tr} {f : Nat → List UInt8 → Option (Tr × List UInt8 × Nat)} {c m m' : Nat} {xs r : List UInt8} {t : Tr} (h : f m xs = some (t, r, m')) : preL ts (readL f (c + 1) m xs) = preL (ts ++ [t]) (readL f c m' r) := by
  unfold preL; rw [readL, h]
  simp only
  cases readL f c m' r with
  | none => rfl
  | some p => simp

theorem grown_row {a b c : World} {r1 row : Option Nat} (h : a.grownBy b r1) (k : b.grownBy c row) (hr : ∀ x, row = some x → a.heap.size ≤ x) : a.grownBy c r1 :=
  ⟨k.os.trans h.os, k.tape.trans h.tape, k.output.trans h.output, Nat.le_trans h.size k.size,
    fun i hi hne => (k.block i (Nat.lt_of_lt_of_le hi h.size) (fun e => by have := hr i e.symm; omega)).trans (h.block i hi hne)⟩
theorem Box4.set3 {w : World} {b : Nat} {c0 c1 c2 c3 : Value} (h : Box4 w b c0 c1 c2 c3) (u : Value) : Box4 (w.setCell ⟨b, 3, none⟩ u) b c0 c1 c2 u := by
  unfold Box4 at *
  simp [World.setCell, Array.getElem?_modify, h]
/-- What a round leaves. -/
theorem list_step {w0 w wr w4 w6 : World} {R V Pb L n4 c4 gg cap6 : Nat} {ad a4 : Option Addr} {cd : Nat} {ts : List Tr} {kt : UInt8} {nt : Int} {st : List UInt8} {lt : List Tr} {v5 : Value} {rt : List UInt8} {mt : Nat} {xsr : List Value} {p0 p1 p2 p3 u0 u1 u2 : Value}
    (hRV : R < V) (hRP : R < Pb) (hPV : Pb < V) (hP0 : w0.heap.size ≤ Pb) (hPw : w.heap.size ≤ Pb) (hgr : w.grownBy wr (some R)) (hb : Box4 wr V u0 u1 u2 (.slice ad L cd)) (hB : Box4 wr Pb p0 p1 p2 p3) (hL : ts.length = L)
    (hO : OwnL 43 wr (V + 1) ts (.slice ad L cd)) (hgE : wr.grownBy w4 (some R)) (hr5 : RdAt w0 w4 R v5 rt mt)
    (ho4 : OwnT 43 w4 wr.drew.heap.size (.node kt nt st lt) (.agg #[.int .u8 (kt.toNat : Int), .int .i64 nt, .string (str st), .slice a4 n4 c4]))
    (hx : (w4.alloc (.cells #[.int .u8 (kt.toNat : Int), .int .i64 nt, .string (str st), .slice a4 n4 c4] 43)).ownsRow (V + 1) 43 4 (.slice ad L cd) L xsr)
    (hown6 : w6.ownsRow (V + 1) 43 4 (.slice (some ⟨gg, 0, none⟩) (L + 1) cap6) (L + 1) (xsr ++ [.int .u8 (kt.toNat : Int), .int .i64 nt, .string (str st), .slice a4 n4 c4]))
    (hgrow6 : (w4.alloc (.cells #[.int .u8 (kt.toNat : Int), .int .i64 nt, .string (str st), .slice a4 n4 c4] 43)).grownBy w6 (Value.slice ad L cd).ownBlock)
    (hat6 : (Value.slice ad L cd).ownBlock = some gg ∨ gg = w4.heap.size + 1) :
    RdAt w0 (w6.setCell ⟨V, 3, none⟩ (.slice (some ⟨gg, 0, none⟩) (L + 1) cap6)) R v5 rt mt ∧ w.grownBy (w6.setCell ⟨V, 3, none⟩ (.slice (some ⟨gg, 0, none⟩) (L + 1) cap6)) (some R) ∧
      Box4 (w6.setCell ⟨V, 3, none⟩ (.slice (some ⟨gg, 0, none⟩) (L + 1) cap6)) V u0 u1 u2 (.slice (some ⟨gg, 0, none⟩) (L + 1) cap6) ∧ Box4 (w6.setCell ⟨V, 3, none⟩ (.slice (some ⟨gg, 0, none⟩) (L + 1) cap6)) Pb p0 p1 p2 p3 ∧
      OwnL 43 (w6.setCell ⟨V, 3, none⟩ (.slice (some ⟨gg, 0, none⟩) (L + 1) cap6)) (V + 1) (ts ++ [.node kt nt st lt]) (.slice (some ⟨gg, 0, none⟩) (L + 1) cap6) := by
  have hRo : ∀ k, (Value.slice ad L cd).ownBlock = some k → V + 1 ≤ k := fun k hk => (hx.lt k hk).1
  have hEa : Ext w4 (w4.alloc (.cells #[.int .u8 (kt.toNat : Int), .int .i64 nt, .string (str st), .slice a4 n4 c4] 43)) := (Ext.refl w4).alloc _
  have hza : (w4.alloc (.cells #[.int .u8 (kt.toNat : Int), .int .i64 nt, .string (str st), .slice a4 n4 c4] 43)).heap.size = w4.heap.size + 1 := by simp
  generalize w4.alloc (.cells #[.int .u8 (kt.toNat : Int), .int .i64 nt, .string (str st), .slice a4 n4 c4] 43) = wa at *
  have hV := hb.lt
  have hset := grown_set w6 V 3 (.slice (some ⟨gg, 0, none⟩) (L + 1) cap6)
  have hfar : ∀ k, (Value.slice ad L cd).ownBlock = some k → w0.heap.size ≤ k ∧ k ≠ R := fun k hk => by have := hRo k hk; omega
  have hne : ∀ b, b ≤ V → (Value.slice ad L cd).ownBlock ≠ some b := fun b hb e => by have := hRo b e; omega
  have hrow : ∀ k, (some V : Option Nat) = some k → w0.heap.size ≤ k ∧ k ≠ R := fun k hk => by injection hk with hk; omega
  refine ⟨((hr5.then hEa).kept hgrow6 hfar).kept hset hrow, ?_, ?_, ?_, ?_⟩
  · refine grown_row (grown_row (grown_trans hgr (grown_trans hgE (grown_ext hEa _))) hgrow6 (fun k hk => ?_)) hset (fun k hk => ?_)
    · have := hRo k hk; omega
    · injection hk with hk; omega
  · exact (((hb.kept hgE (by simp; omega)).ext hEa).kept hgrow6 (hne V (Nat.le_refl _))).set3 _
  · exact (((hB.kept hgE (by simp; omega)).ext hEa).kept hgrow6 (hne Pb (by omega))).kept hset (by simp; omega)
  · have hzd : wr.drew.heap.size = wr.heap.size := rfl
    rw [hzd] at ho4
    subst hL
    refine (hO.snoc (w := wa) (mid := wr.heap.size) (Nat.le_refl _) (fun b h1 h2 => ?_) (ho4.ext hEa) (by omega) hgrow6 hx hown6 ?_).grown hset (fun b hb => by injection hb with hb; omega)
    · have := hgE.size
      rw [hEa.block b (by omega), hgE.block b h2 (by simp; omega)]
    · rcases hat6 with h | h
      · exact .inl h.symm
      · right; rw [hza, ← h]; rfl

set_option maxRecDepth 100000 in
set_option maxHeartbeats 4000000 in
theorem value_list (dd : Nat) (ih : ∀ (D : Int) (w0 w : World) (R : Nat) (v : Value) (xs : List UInt8) (m : Nat), Hid (D = dd) → RdAt w0 w R v xs m → m ≤ 1000 → Calls Tryz.prog 119 #[.pointer (some ⟨R, 0, none⟩), .int .i64 D] w (ValPost w0 w R (readT dd m xs)))
    {w0 w : World} {R : Nat} {v : Value} {xs : List UInt8} {m : Nat} (D : Int) (hDd : Hid (D = dd + 1)) (hD : 0 < D) (hD2 : D ≤ 101) (hm : 0 < m) (hm2 : m ≤ 1000) (h : RdAt w0 w R v xs m) (k : Nat) (hN : takeN xs = some (2, k)) (c : Nat) (k2 : Nat) (hN2 : takeN (xs.drop k) = some ((c : Int), k2)) (hc40 : c ≤ 40)
    (r2 : List UInt8) (hr2e : Hid ((xs.drop k).drop k2 = r2)) (m1 : Nat) (hm1 : Hid (m1 + 1 = m)) (o : Option (Tr × List UInt8 × Nat)) (hoe : Hid (o = match readL (readT dd) c m1 r2 with
          | none => none
          | some (l, r'', m') => some (.node 2 0 [] l, r'', m'))) :
    Calls Tryz.prog 119 #[.pointer (some ⟨R, 0, none⟩), .int .i64 D] w (ValPost w0 w R o) := by
  have HN2 := Lib.hid hN2
  have IH := Lib.hid ih
  clear hN2 ih
  have HN := Lib.hid hN
  have H := Lib.hid h
  have hR := h.lt
  clear h hN
  have hD0 : (D == 0) = false := by simp; omega
  have hm' : ((m : Int) - 1 < 0) = False := by simp; omega
  go_enter Tryz.func119, Tryz.ntmps119
  go_wp2_with fail
  have hE0 := (Ext.refl w).alloc (.cells #[.int .u8 0, .int .i64 0, .string (str []), .slice none 0 0] 43)
  have hB4 := Box4.new w (.int .u8 0) (.int .i64 0) (.string (str [])) (.slice none 0 0)
  refine (rdnum_ok (H.out.then hE0) 0 2 2 k HN.out (by omega) (by omega)).mono ?_
  rintro e w1 ⟨rfl, ⟨v1, hr1⟩, hg1⟩
  have c0 := hr1.c0
  have c1 := hr1.c1
  have f0 := hr1.f0
  have f1 := hr1.f1
  have hlt := hr1.lt
  go_wp2_with fail
  change Calls _ _ _ (valW w1 R m 2) _
  obtain ⟨hr2, hg2, hb2, hz2⟩ := valW_facts hr1 2
  have hB5 := hB4.kept hg1 (by simp; omega)
  have hB6 := hB5.kept hg2 (by simp; omega)
  have hg3 := grown_trans (grown_trans (grown_ext hE0 (some R)) hg1) hg2
  have hlw := hg3.size
  have hlw1 := hE0.size
  have hlw2 := hg1.size
  generalize valW w1 R m 2 = W2 at *
  generalize hV : w1.heap.size = V at *
  have HV : Hid (w1.heap.size = V) := hV
  clear hV
  refine (rdnum_ok hr2 _ _ c k2 HN2.out (by omega) (by omega)).mono ?_
  rintro e w3 ⟨rfl, ⟨v3, hr3⟩, hg4⟩
  rw [hr2e.out] at hr3
  have hb3 := hb2.kept hg4 (by simp; omega)
  have hB7 := hB6.kept hg4 (by simp; omega)
  have hsz1 : (w.alloc (.cells #[.int .u8 0, .int .i64 0, .string (str []), .slice none 0 0] 43)).heap.size = w.heap.size + 1 := by simp
  have hPV : ¬ w.heap.size = V := by omega
  have hPV' : w.heap.size ≤ V := by omega
  have hRV : R < V := hlt
  have hVP : ¬ V = w.heap.size := by omega
  have hg5 := grown_trans hg3 hg4
  have hz3 : V + 1 ≤ w3.heap.size := by have := hg4.size; omega
  have hc0 : (0 : Int) ≤ (c : Int) := by omega
  have hr4 : RdAt w0 w3 R v3 r2 m1 := by
    have e : ((m : Int) - 1) = (m1 : Int) := by have := hm1.out; omega
    rw [← e]; exact hr3
  have hm1' : m1 ≤ 1000 := by have := hm1.out; omega
  clear hb2 hB6 hB5 hB4 hr2 hr1 hr3 hg1 hg2 hg3 hg4 hz2 hsz1 hlw hlw1 hlw2 c0 c1 f0 f1 hE0 hlt HN2 HN
  go_wp2_with fail
  go_loopw [44] (fun i wr => ∃ (j : Nat) (ts : List Tr) (d : Value) (vj : Value) (rj : List UInt8) (mj : Nat), j ≤ c ∧ i = .int .i64 j ∧ Hid (ts.length = j) ∧ mj ≤ 1000 ∧ Hid (RdAt w0 wr R vj rj mj) ∧ w.grownBy wr (some R) ∧
    Box4 wr V (.int .u8 2) (.int .i64 0) (.string { data := #[] }) d ∧ Box4 wr w.heap.size (.int .u8 0) (.int .i64 0) (.string (str [])) (.slice none 0 0) ∧ Hid (OwnL 43 wr (V + 1) ts d) ∧
    Hid (readL (readT dd) c m1 r2 = preL ts (readL (readT dd) (c - j) mj rj))) (fun i _ => c - (intOf i).toNat)
  case atStart => exact ⟨0, [], _, _, _, _, by omega, rfl, Lib.hid rfl, hm1', Lib.hid hr4, hg5, hb3, hB7, Lib.hid (OwnL.nil _ _ _), Lib.hid (by rw [preL_nil]; rfl)⟩
  case round =>
    obtain ⟨j, ts, d, vj, rj, mj, hj, rfl, HT, hmj, Hr, hgr, hb, hB, HO, HE⟩ := hrel
    clear hr4 hg5 hb3 hB7
    by_cases hlt : j < c
    · obtain ⟨b0, b1, b2, b3⟩ := hb.cells
      obtain ⟨z0, z1, z2, z3⟩ := hb.frozen
      have hD1 : Hid (D - 1 = dd) := Lib.hid (by have := hDd.out; omega)
      obtain ⟨ad, cd, rfl⟩ : ∃ a cap, d = .slice a ts.length cap := by obtain ⟨F, h⟩ := HO.out; exact h.slice
      generalize hL : ts.length = L at *
      have HLl : Hid (ts.length = L) := Lib.hid hL
      clear hL
      cases hrd : readT dd mj rj with
      | none =>
        have HRD := Lib.hid hrd
        have ho : o = none := by
          rw [hoe.out, HE.out]
          obtain ⟨c', hc'⟩ : ∃ c', c - j = c' + 1 := ⟨c - j - 1, by omega⟩
          rw [hc', preL_none hrd]
        have HPB : Hid (∀ w4, Ext w0 w4 → wr.grownBy w4 (some R) → ValPost w0 w R o (.panicked [{ v := .iface 166 (.agg #[]), recovered := false }]) w4) := Lib.hid (fun w4 h1 h2 => by
          rw [ho]; exact ⟨rfl, h1, grown_trans hgr h2⟩)
        clear hrd ho
        have hwr : IntKind.i64.wrap (D - 1) = D - 1 := IntWalk.i64_in _ (by omega)
        go_wp2_with fail
        go_region_with ((refine (IH.out (D - 1) w0 _ R vj rj mj hD1 (Hr.out.then (by first | exact Ext.refl _ | exact (Ext.refl _).drew | exact (Ext.refl _).drewN _)) hmj).mono ?_; rw [HRD.out]; rintro e w4 ⟨rfl, hE4, hg4⟩; refine panics_out w4 ⟨rfl, HPB.out w4 hE4 (grown_trans (grown_ext (Ext.refl wr).drew _) hg4)⟩ ?_))
        all_goals trivial
      | some p =>
        obtain ⟨tt, rt, mt⟩ := p
        obtain ⟨kt, nt, st, lt⟩ := tt
        have HE2 : Hid (readL (readT dd) c m1 r2 = preL (ts ++ [.node kt nt st lt]) (readL (readT dd) (c - (j + 1)) mt rt)) := Lib.hid (by
          obtain ⟨c', hc'⟩ : ∃ c', c - j = c' + 1 := ⟨c - j - 1, by omega⟩
          have hc2 : c - (j + 1) = c' := by omega
          rw [HE.out, hc', preL_some hrd, hc2])
        have hmt : mt ≤ 1000 := by have := (readT_inv _ _ _ _ _ _ hrd).2.2.2.1; omega
        have HRD := Lib.hid hrd
        obtain ⟨xsr, hrow⟩ := HO.out.row
        have hrow0 : wr.ownsRow (V + 1) 43 4 (.slice ad L cd) L xsr := by rw [HLl.out] at hrow; exact hrow
        have hRo : ∀ k, (Value.slice ad L cd).ownBlock = some k → V + 1 ≤ k := fun k hk => (hrow0.lt k hk).1
        have HRow := Lib.hid hrow0
        have HRo := Lib.hid hRo
        obtain ⟨i0, hi0, hz0, hz1, hz2⟩ := info_parts info_val
        have IH2 : Hid (∀ wx, RdAt w0 wx R vj rj mj → Calls Tryz.prog 119 #[.pointer (some ⟨R, 0, none⟩), .int .i64 (D - 1)] wx (fun e w' =>
            ∃ (a4 : Option Addr) (n4 c4 : Nat), e = .returned (.agg #[.int .u8 (kt.toNat : Int), .int .i64 nt, .string (str st), .slice a4 n4 c4]) ∧ (∃ v', RdAt w0 w' R v' rt mt) ∧ wx.grownBy w' (some R) ∧
              OwnT 43 w' wx.heap.size (.node kt nt st lt) (.agg #[.int .u8 (kt.toNat : Int), .int .i64 nt, .string (str st), .slice a4 n4 c4]))) :=
          Lib.hid (fun wx hx => (IH.out (D - 1) w0 wx R vj rj mj hD1 hx hmj).mono (fun e w' h => by rw [HRD.out] at h; exact ValOK.two h))
        have hzr := hgr.size
        have hlr := hb.lt
        have hLc : L ≤ 40 := by have := HT.out; omega
        have hwr : IntKind.i64.wrap (D - 1) = D - 1 := IntWalk.i64_in _ (by omega)
        have HL1 : Hid (L + 1 ≤ maxLen) := Lib.hid (by unfold maxLen; omega)
        clear hrd hrow hrow0 hRo
        go_wp2_with fail
        go_region_law (first
          | (refine step_append_lies _ (by rfl) _ _ _ (by rfl) (V + 1) 43 i0 _ 4 56 Tryz.underlying41 hi0 hz0 hz1 hz2 rfl (by omega) (.slice ad L cd) L xsr (by rfl) HR6.out ⟨w4.heap.size, 0, none⟩ 1 1 [.int .u8 (kt.toNat : Int), .int .i64 nt, .string (str st), .slice a4 n4 c4] (by rfl) (by rfl) (World.news_of_block (cs := #[.int .u8 (kt.toNat : Int), .int .i64 nt, .string (str st), .slice a4 n4 c4]) (t := 43) (fr := (0, 0)) (heap_alloc_new w4 _)) (by simp [Value.oneCell']) (by omega) HL1.out (by omega) (by simp; omega) (w4.heap.size + 1) (by simp) ?_
             intro gg cap6 w6 hown6 hgrow6 hat6 hlt6
             have S6 := (hgrow6.cell_far ⟨V, 3, none⟩ (by simp; omega) (fun e => by have := HRo.out _ e.symm; simp at this; omega)).trans ((((Ext.refl w4).alloc _).cell (p := ⟨V, 3, none⟩) hV4).trans S4)
             have S6' := (hgrow6.frozen_far ⟨V, 3, none⟩ (by simp; omega) (fun e => by have := HRo.out _ e.symm; simp at this; omega)).trans ((((Ext.refl w4).alloc _).frozen (p := ⟨V, 3, none⟩) hV4).trans S4'))
          | (go_simp
             go_at_call 119
             refine (IH2.out _ ?_).mono ?_
             · first | exact Hr.out | exact Hr.out.then (Ext.refl _).drew | exact Hr.out.then ((Ext.refl _).drewN _)
             rintro e w4 ⟨a4, n4, c4, rfl, ⟨v5, hr5⟩, hg4, ho4⟩
             have hgE := grown_trans (grown_ext (Ext.refl wr).drew (some R)) hg4
             have hV4 : V < w4.heap.size := Nat.lt_of_lt_of_le hlr hgE.size
             have S4 := (hgE.cell_far ⟨V, 3, none⟩ hlr (by simp; omega)).trans b3
             have S4' := (hgE.frozen_far ⟨V, 3, none⟩ hlr (by simp; omega)).trans z3
             have HR6 : Hid ((w4.alloc (.cells #[.int .u8 (kt.toNat : Int), .int .i64 nt, .string (str st), .slice a4 n4 c4] 43)).ownsRow (V + 1) 43 4 (.slice ad L cd) L xsr) := Lib.hid ((HRow.out.kept hgE (.inr (fun e => by have := HRo.out _ e; omega))).alloc _)
             have HO4 := Lib.hid ho4
             have Hr5 := Lib.hid hr5
             clear hr5 ho4 hg4))
        all_goals
          obtain ⟨y1, y2, y3, y4, y5⟩ := list_step hRV (by omega) (by omega) (by have := H.out.ext.size; omega) (Nat.le_refl _) hgr hb hB HLl.out HO.out hgE Hr5.out HO4.out HR6.out hown6 hgrow6 hat6
          have Y1 := Lib.hid y1
          have Y5 := Lib.hid y5
          have HLT : Hid ((ts ++ [Tr.node kt nt st lt]).length = j + 1) := Lib.hid (by rw [List.length_append, HLl.out, List.length_singleton]; have := HT.out; omega)
          clear y1 y5 S6 S6' S4 S4' HR6 HO4 Hr5 hown6 hgrow6 hat6 hlt6 hV4 hgE HRow HRo HO HE HRD IH2 b0 b1 b2 b3 z0 z1 z2 z3 hb hB hgr
          go_wp2
          go_roundw
          case rel => exact ⟨j + 1, _, _, _, _, mt, by omega, by go_num, HLT, hmt, Y1, y2, y3, y4, Y5, HE2⟩
          case measure => simp [intOf]; omega
    · obtain rfl : j = c := by omega
      obtain ⟨ad, cd, rfl⟩ : ∃ a cap, d = .slice a ts.length cap := by obtain ⟨F, h⟩ := HO.out; exact h.slice
      have ho : o = some (.node 2 0 [] ts, rj, mj) := by
        rw [hoe.out, HE.out, Nat.sub_self]
        simp [readL, preL]
      have HOo := Lib.hid ho
      generalize hL : ts.length = L at *
      obtain ⟨d0, d1, d2, d3⟩ := hb.cells
      obtain ⟨e0, e1, e2, e3⟩ := hb.frozen
      obtain ⟨p0, p1, p2, p3⟩ := hB.cells
      obtain ⟨q0, q1, q2, q3⟩ := hB.frozen
      have HGR := Lib.hid hgr
      clear hb hB HE ho hgr hL hoe
      go_wp2
      refine bodyPost_ret (v := .agg #[.int .u8 2, .int .i64 0, .string (str []), .slice ad L cd]) (by simp [results, Tryz.results119, go_sem, p0, p1, p2, p3]; rfl) rfl ?_
      have hk2 : ∀ k, some w.heap.size = some k → w0.heap.size ≤ k ∧ k ≠ R := fun k hk => by
        injection hk with hk; have := H.out.ext.size; omega
      rw [HOo.out]
      refine ⟨_, rfl, ⟨_, (((Hr.out.kept (grown_set _ _ 0 _) hk2).kept (grown_set _ _ 1 _) hk2).kept (grown_set _ _ 2 _) hk2).kept (grown_set _ _ 3 _) hk2⟩, ?_, ?_⟩
      · exact grown_new (grown_new (grown_new (grown_new HGR.out (Nat.le_refl _) _) (Nat.le_refl _) _) (Nat.le_refl _) _) (Nat.le_refl _) _
      · have hs : ∀ b, some w.heap.size = some b → b < V + 1 := fun b hb => by injection hb with hb; omega
        have h := (((HO.out.grown (grown_set _ w.heap.size 0 (.int .u8 2)) hs).grown (grown_set _ w.heap.size 1 (.int .i64 0)) hs).grown (grown_set _ w.heap.size 2 (.string { data := #[] })) hs).grown (grown_set _ w.heap.size 3 (.slice ad L cd)) hs
        exact (OwnT.mk (k := 2) (s := []) (by unfold isI64; omega) (by simp) h).mono (by omega)
end Go.Proofs.YtdienbcjfljjnaaGreatDoor
