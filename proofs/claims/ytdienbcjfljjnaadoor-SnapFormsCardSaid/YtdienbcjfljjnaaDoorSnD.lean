/- Walks of package snap: nums, put, Bytes. -/
import Derived.Test.YtdienbcjfljjnaaDoorSnA
import Derived.Test.YtdienbcjfljjnaaDoorBoxS
import Derived.Test.YtdienbcjfljjnaaDoorWireC
open Go.RowKit Go.Shelf
namespace Go.Proofs.YtdienbcjfljjnaaDoor
open Go Go.Proofs Fm

theorem OwnB_far {base : Nat} {w : World} {v : Value} {xs : List UInt8} (h : OwnB base w v xs) {B : Nat} (hB : B < base) (j : Nat) (u : Value) : OwnB base (w.setCell ⟨B, j, none⟩ u) v xs := by
  refine World.ownsRow.kept h (setOne_grown w B j u) ?_
  cases hv : v.ownBlock with
  | none => exact .inl rfl
  | some b => right; intro e; injection e with e; have := (World.ownsRow.lt h b hv).1; omega
theorem OwnB.slice {base : Nat} {w : World} {v : Value} {xs : List UInt8} (h : OwnB base w v xs) : ∃ a m c, v = .slice a m c := by
  obtain ⟨a, c, e, -⟩ := h.bytes; exact ⟨a, _, c, e⟩
/-- What putting a number in a box of bytes comes to. -/
def PutPost (w : World) (B : Nat) (zs : List UInt8) (e : Ending) (w' : World) : Prop :=
  ∃ (a : Option Addr) (m c : Nat), e = .returned (.tuple #[]) ∧ w'.cell? ⟨B, 0, none⟩ = some (.slice a m c) ∧ w'.frozen? ⟨B, 0, none⟩ = false ∧ OwnB w.heap.size w' (.slice a m c) zs ∧ w.grownBy w' (some B)

set_option maxRecDepth 100000 in
set_option maxHeartbeats 4000000 in
theorem nums1_any (f : Fld) (n : Int) (w : World) (B : Nat) (v : Value) (xs : List UInt8) (hv : w.cell? ⟨B, 0, none⟩ = some v) (hf : w.frozen? ⟨B, 0, none⟩ = false) (hB : B < w.heap.size) (hx : Bytes w v xs) (hs : xs.length ≤ 1099511627776)
    (hc : w.cell? ⟨f.b, f.off, none⟩ = some (.int .i64 n)) (hb : f.b < w.heap.size) (hn : isI64 n) :
    Calls Tryd.prog 69 #[.agg #[.pointer (some ⟨f.b, f.off, none⟩), .int .i64 f.lo, .int .i64 f.hi], .pointer (some ⟨B, 0, none⟩)] w (PutPost w B (xs ++ numB n)) := by
  have h1 := BoxL.new w [.pointer (some ⟨f.b, f.off, none⟩), .int .i64 f.lo, .int .i64 f.hi] 118
  have hE := (Ext.refl w).alloc (.cells #[.pointer (some ⟨f.b, f.off, none⟩), .int .i64 f.lo, .int .i64 f.hi] 118)
  have c := (hE.cell (p := ⟨f.b, f.off, none⟩) hb).trans hc
  have d := (hE.cell (p := ⟨B, 0, none⟩) hB).trans hv
  have HF := Lib.hid ((hE.frozen (p := ⟨B, 0, none⟩) hB).trans hf)
  have HX := Lib.hid (hx.ext hE)
  obtain ⟨av, cv, rfl, -⟩ := id hx
  generalize xs.length = lx at *
  clear hc hb hv hf hx
  go_enter Tryd.func69, Tryd.ntmps69
  go_wp2_with fail
  have hz : (w.alloc (.cells #[.pointer (some ⟨f.b, f.off, none⟩), .int .i64 f.lo, .int .i64 f.hi] 118)).heap.size = w.heap.size + 1 := by simp
  generalize w.alloc (.cells #[.pointer (some ⟨f.b, f.off, none⟩), .int .i64 f.lo, .int .i64 f.hi] 118) = W1 at *
  have p0 := h1.cell 0 _ rfl
  have HE := Lib.hid hE
  clear h1 hE
  go_still_tail 5, (by kernel_rfl)
  change wpList _ _ _ _ _ W1.drew
  have hB1 : B < W1.heap.size := by omega
  have hE2 := (Ext.refl W1).drew
  have HX2 := Lib.hid (HX.out.ext hE2)
  have HF2 := Lib.hid ((hE2.frozen (p := ⟨B, 0, none⟩) hB1).trans HF.out)
  have d2 := (hE2.cell (p := ⟨B, 0, none⟩) hB1).trans d
  have hz2 := hE2.size
  have HE2 := Lib.hid (HE.out.trans hE2)
  clear c d HX HF HE p0 hE2
  generalize W1.drew = W2 at *
  go_wp2_with fail
  refine (num_any _ xs W2 HX2.out (by have := HX2.out; have := this.length_le; obtain ⟨_, _, e, _⟩ := HX2.out; injection e with _ e; omega) n hn).mono ?_
  rintro e w3 ⟨v3, rfl, r3⟩
  have HO3 := Lib.hid r3.own
  obtain ⟨a3, m3, c3, rfl⟩ := r3.own.slice
  have hE3 := r3.2
  have hB2 : B < W2.heap.size := by omega
  have f3 := (hE3.frozen (p := ⟨B, 0, none⟩) hB2).trans HF2.out
  have d3 := (hE3.cell (p := ⟨B, 0, none⟩) hB2).trans d2
  have HP : Hid (PutPost w B (xs ++ numB n) (.returned (.tuple #[])) (w3.setCell ⟨B, 0, none⟩ (.slice a3 m3 c3))) := Lib.hid
    ⟨a3, m3, c3, rfl, World.cell?_setCell_same _ _ _ d3, by rw [World.frozen?_setCell]; exact f3, (OwnB_far HO3.out (by omega) 0 _).mono (by omega), grown_trans (grown_ext (HE2.out.trans hE3) _) (setOne_grown w3 B 0 _)⟩
  clear r3 hE3 HX2 HF2 d2 HE2 HO3
  go_wp2
  exact bodyPost_end (by simp [results, Tryd.results69, go_sem]) rfl HP.out

set_option maxRecDepth 100000 in
set_option maxHeartbeats 4000000 in
theorem nums_any (fs : List Fld) (ns : List Int) (w : World) (b v : Value) (xs : List UInt8) (hb : Bytes w b xs) (hr : fdE.Row w fs v) (hp : Pts w fs ns) (h0 : 0 < fs.length) (hs : xs.length + (numsB ns).length ≤ 1000000000) :
    Calls Tryd.prog 32 #[b, v] w (RetBytes w (xs ++ numsB ns)) := by
  obtain ⟨a, cap, rfl, h1, h2⟩ := hr.slice
  obtain ⟨av, cv, rfl, -⟩ := id hb
  have HR := Lib.hid hr
  have HP := Lib.hid hp
  have hll : fs.length ≤ 9223372036854775807 := by omega
  have hE0 := (Ext.refl w).alloc (.cells #[.slice av xs.length cv] 27)
  have h3 := BoxL.new w [.slice av xs.length cv] 27
  have HB0 := Lib.hid (hb.ext hE0)
  have HX0 := Lib.hid (show Ext w (w.alloc (.cells #[.slice av xs.length cv] 27)) from hE0)
  have HC0 := Lib.hid (h3.cell 0 _ rfl)
  have HF0 := Lib.hid (h3.free 0)
  have hz0 : (w.alloc (.cells #[.slice av xs.length cv] 27)).heap.size = w.heap.size + 1 := by simp
  clear hr hp hb h1 h2 hE0 h3
  go_enter Tryd.func32, Tryd.ntmps32
  go_wp2_with fail
  generalize w.alloc (.cells #[.slice av xs.length cv] 27) = W0 at *
  go_loopw [11] (fun i wr => ∃ j : Nat, j ≤ fs.length ∧ i = .int .i64 j ∧ ∃ u, Hid (wr.cell? ⟨w.heap.size, 0, none⟩ = some u) ∧ Hid (wr.frozen? ⟨w.heap.size, 0, none⟩ = false) ∧ Hid (Bytes wr u (xs ++ numsB (ns.take j))) ∧ Hid (0 < j → OwnB w.heap.size wr u (xs ++ numsB (ns.take j))) ∧ Hid (Ext w wr) ∧ w.heap.size < wr.heap.size) (fun i _ => fs.length - (intOf i).toNat)
  case atStart => exact ⟨0, by omega, rfl, _, HC0, HF0, Lib.hid (by rw [List.take_zero, numsB_nil, List.append_nil]; exact HB0.out), Lib.hid (fun h => by omega), HX0, by omega⟩
  case round =>
    clear HB0 HC0 HF0 HX0
    obtain ⟨j, hj, rfl, u, HC, HF, HB, HO, HE, hz⟩ := hrel
    by_cases hlt : j < fs.length
    · obtain ⟨fb, off, rfl, hfb, c0, c1, c2⟩ := fd_at HR.out HE.out j hlt
      have hn : j < ns.length := by rw [HP.out.1]; exact hlt
      have HPj := Lib.hid ((HP.out.ext HE.out).2 j hlt hn)
      have HS : Hid ((xs ++ numsB (ns.take j)).length ≤ 1099511627776) := Lib.hid (by
        have := flat_take_le numB ns j
        unfold numsB at hs ⊢
        rw [List.length_append]; omega)
      have HN : Hid (xs ++ numsB (ns.take j) ++ numB ns[j] = xs ++ numsB (ns.take (j + 1))) := Lib.hid (by
        unfold numsB
        rw [flat_at numB ns j hn, List.append_assoc])
      have hj0 : (0 : Int) ≤ (j : Int) := by omega
      go_wp2_with fail
      have hE1 := (Ext.refl wr).alloc (.cells #[.pointer (some ⟨fs[j].b, fs[j].off, none⟩), .int .i64 fs[j].lo, .int .i64 fs[j].hi] 118)
      generalize wr.alloc (.cells #[.pointer (some ⟨fs[j].b, fs[j].off, none⟩), .int .i64 fs[j].lo, .int .i64 fs[j].hi] 118) = W1 at *
      have hz1 := hE1.size
      have HW1 := Lib.hid (HE.out.trans hE1)
      refine (nums1_any fs[j] ns[j] W1 w.heap.size u _ ((hE1.cell (p := ⟨w.heap.size, 0, none⟩) hz).trans HC.out) ((hE1.frozen (p := ⟨w.heap.size, 0, none⟩) hz).trans HF.out) (by omega) (HB.out.ext hE1) HS.out
        ((hE1.cell (p := ⟨fs[j].b, fs[j].off, none⟩) HPj.out.2.1).trans HPj.out.1) (Nat.lt_of_lt_of_le HPj.out.2.1 hz1) HPj.out.2.2).mono ?_
      rintro e w2 ⟨a2, m2, k2, rfl, d2, f2, o2, g2⟩
      rw [HN.out] at o2
      have HC2 := Lib.hid d2
      have HF2 := Lib.hid f2
      have HO2 := Lib.hid (o2.mono (show w.heap.size ≤ W1.heap.size by omega))
      have HE2 := Lib.hid (HW1.out.grown g2 (fun x hx => by injection hx with hx; omega))
      have hz2 := g2.size
      clear d2 f2 o2 g2 hE1 c0 c1 c2 HC HF HB HO HE HW1
      go_wp2
      go_roundw
      case rel => exact ⟨j + 1, by omega, by go_num, _, HC2, HF2, Lib.hid HO2.out.bytes, Lib.hid (fun _ => HO2.out), HE2, by omega⟩
      case measure => simp [intOf]; omega
    · have hjn : j = fs.length := by omega
      have hO := HO.out (by omega)
      rw [hjn, ← HP.out.1, List.take_length] at hO
      obtain ⟨a2, m2, k2, hu⟩ := hO.slice
      have c := HC.out
      rw [hu] at c hO
      have HX : Hid (RetBytes w (xs ++ numsB ns) (.returned (.slice a2 m2 k2)) wr) := Lib.hid ⟨_, rfl, hO, HE.out⟩
      clear hO hjn HC HF HB HO HE hu
      go_wp2
      go_ret
      exact HX.out
end Go.Proofs.YtdienbcjfljjnaaDoor
