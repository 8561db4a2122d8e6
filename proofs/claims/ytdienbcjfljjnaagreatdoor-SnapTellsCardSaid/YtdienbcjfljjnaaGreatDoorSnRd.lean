/- The reference of states: read. -/
import Derived.Test.YtdienbcjfljjnaaGreatDoorSnRm
import Derived.Test.YtdienbcjfljjnaaGreatDoorSnL
import Derived.Test.YtdienbcjfljjnaaGreatDoorRefD
open Go.RowKit Go.Shelf
namespace Go.Proofs.YtdienbcjfljjnaaGreatDoor
open Go Go.Proofs Fm

/-- A row of numbers of one's own, cell by cell. -/
theorem own_cells {e : TypeId} {base : Nat} {w : World} {v : Value} {l : List Int} (h : OwnN e base w v l) (hne : 0 < l.length) :
    ∃ g cap, v = .slice (some ⟨g, 0, none⟩) l.length cap ∧ base ≤ g ∧ g < w.heap.size ∧ ∀ (i : Nat) (hi : i < l.length), w.cell? ⟨g, i, none⟩ = some (.int .i64 l[i]) := by
  have hc := fun g => World.ownsRow.cells h (g := g)
  rcases h.2 with ⟨rfl, h0⟩ | ⟨g, cap, cur, rfl, hb, hg, h1, h2, h5, h6⟩
  · omega
  · refine ⟨g, cap, rfl, hb, (Array.getElem?_eq_some_iff.1 hg).1, fun i hi => ?_⟩
    have := hc g rfl i (.int .i64 l[i]) (by simp [hi])
    rw [Addr.add_lit] at this
    simpa using this
theorem rnums_lit (xs : List UInt8) (A0 k : Nat) (K : Int) (hK : K = (k : Int)) (hA : A0 ≤ xs.length) (hk : k ≤ 900) (v : Value) (w : World) (h : Bytes w v (xs.drop A0)) :
    Calls Tryz.prog 49 #[v, .int .i64 K] w (RNums xs A0 k w) := by
  subst hK; exact rnums_any xs A0 k hA hk v w h
theorem rlist16 {C : List Value} (h : C.length = 16) : ∃ c0 c1 c2 c3 c4 c5 c6 c7 c8 c9 c10 c11 c12 c13 c14 c15, C = [c0, c1, c2, c3, c4, c5, c6, c7, c8, c9, c10, c11, c12, c13, c14, c15] := by
  match C, h with
  | [c0, c1, c2, c3, c4, c5, c6, c7, c8, c9, c10, c11, c12, c13, c14, c15], _ => exact ⟨c0, c1, c2, c3, c4, c5, c6, c7, c8, c9, c10, c11, c12, c13, c14, c15, rfl⟩
/-- What read hands back, out of its box. -/
theorem rread_res {fn : Func} (hfn : fn.results = #[.cell 2 59, .tmp 3]) (T : Array Value) (W : World) (B : Nat) (n : Value) (C : List Value) (hC : C.length = 16) (h2 : T[2]?.getD undef = .pointer (some ⟨B, 0, none⟩)) (h3 : T[3]?.getD undef = n) (hb : W.rangeAt B 0 C) :
    (results fn T).run Tryz.prog W = .ok (.tuple #[.agg C.toArray, n]) W := by
  obtain ⟨c0, c1, c2, c3, c4, c5, c6, c7, c8, c9, c10, c11, c12, c13, c14, c15, rfl⟩ := rlist16 hC
  have p0 := hb 0 _ rfl
  have p1 := hb 1 _ rfl
  have p2 := hb 2 _ rfl
  have p3 := hb 3 _ rfl
  have p4 := hb 4 _ rfl
  have p5 := hb 5 _ rfl
  have p6 := hb 6 _ rfl
  have p7 := hb 7 _ rfl
  have p8 := hb 8 _ rfl
  have p9 := hb 9 _ rfl
  have p10 := hb 10 _ rfl
  have p11 := hb 11 _ rfl
  have p12 := hb 12 _ rfl
  have p13 := hb 13 _ rfl
  have p14 := hb 14 _ rfl
  have p15 := hb 15 _ rfl
  simp only [Nat.zero_add] at p0 p1 p2 p3 p4 p5 p6 p7 p8 p9 p10 p11 p12 p13 p14 p15
  simp [results, hfn, go_sem, h2, h3, p0, p1, p2, p3, p4, p5, p6, p7, p8, p9, p10, p11, p12, p13, p14, p15]
/-- A box is written anew, whole. -/
theorem _root_.Fm.BoxL.setAll {w : World} {b : Nat} {vs us : List Value} (h : BoxL w b vs) (hl : us.length = vs.length) : BoxL (w.setCells b 0 us) b us :=
  ⟨Nat.lt_of_lt_of_le h.lt (setCells_grown b us 0 w).size, (fun j u hu => by
    have := World.rangeAt_setCells_same w b 0 us (h.there (Nat.le_of_eq hl)) j u hu
    rwa [Nat.zero_add] at this), (fun j => by rw [World.frozen?_setCells]; exact h.free j)⟩
/-- The results' box and the node's, empty. -/
structure RdSt (w W : World) : Prop where
  e : Ext w W
  pb : BoxL W w.heap.size ndZ
  xb : BoxL W (w.heap.size + 1) ndZ
theorem RdSt.ext {w W W' : World} (h : RdSt w W) (hE : Ext W W') : RdSt w W' := ⟨h.e.trans hE, h.pb.ext hE, h.xb.ext hE⟩
theorem RdSt.stored {w W : World} (h : RdSt w W) : BoxL (W.setCells w.heap.size 0 ndZ) w.heap.size ndZ ∧ Ext w (W.setCells w.heap.size 0 ndZ) :=
  ⟨h.pb.setAll rfl, h.e.grown (setCells_grown _ _ _ _) (fun k hk => by injection hk with hk; omega)⟩
/-- What read comes to. -/
def RNode (xs : List UInt8) (A0 : Nat) (w : World) (e : Ending) (w' : World) : Prop :=
  ∃ (i nm : ByteArray) (kd fl ow pl : Int) (a : Option Addr) (m c : Nat) (wd qu st fa tk vk vn : Int) (vs : ByteArray) (va : Option Addr) (vm vc n : Nat),
    e = .returned (.tuple #[.agg #[.string i, .string nm, .int .u8 kd, .int .i64 fl, .int .i64 ow, .int .i64 pl, .slice a m c, .int .i64 wd, .int .i64 qu, .int .u8 st, .int .i64 fa, .int .i64 tk, .int .u8 vk, .int .i64 vn, .string vs, .slice va vm vc], .int .i64 (n : Int)]) ∧ Ext w w' ∧
    ((rnd (xs.drop A0) = none ∧ n = 0) ∨ ∃ (nd : Nd) (B : Nat), rnd (xs.drop A0) = some (nd, xs.drop B) ∧ B = A0 + n ∧ B ≤ xs.length ∧ 0 < n ∧
      [.string i, .string nm, .int .u8 kd, .int .i64 fl, .int .i64 ow, .int .i64 pl, .slice a m c, .int .i64 wd, .int .i64 qu, .int .u8 st, .int .i64 fa, .int .i64 tk, .int .u8 vk, .int .i64 vn, .string vs, .slice va vm vc] = ndCells nd (.slice a m c) (.int .u8 vk) (.int .i64 vn) (.string vs) (.slice va vm vc) ∧
      OwnN 3 w.heap.size w' (.slice a m c) nd.after ∧ OwnT 43 w' w.heap.size nd.val (.agg #[.int .u8 vk, .int .i64 vn, .string vs, .slice va vm vc]) ∧ ndWf nd)
theorem RNode.bad {xs : List UInt8} {A0 : Nat} {w w' : World} (h : rnd (xs.drop A0) = none) (hE : Ext w w') : RNode xs A0 w (.returned (.tuple #[.agg #[.string { data := #[] }, .string { data := #[] }, .int .u8 0, .int .i64 0, .int .i64 0, .int .i64 0, .slice none 0 0, .int .i64 0, .int .i64 0, .int .u8 0, .int .i64 0, .int .i64 0, .int .u8 0, .int .i64 0, .string { data := #[] }, .slice none 0 0], .int .i64 0])) w' :=
  ⟨_, _, _, _, _, _, _, _, _, _, _, _, _, _, _, _, _, _, _, _, 0, rfl, hE, .inl ⟨h, rfl⟩⟩

set_option maxRecDepth 100000 in
set_option maxHeartbeats 32000000 in
theorem rread11_any (xs : List UInt8) (A0 : Nat) (hA : A0 ≤ xs.length) (v : Value) (w : World) (h : Bytes w v (xs.drop A0)) :
    Calls Tryz.prog 50 #[v] w (RNode xs A0 w) := by
  obtain ⟨ys, hys⟩ : ∃ ys, ys = xs.drop A0 := ⟨_, rfl⟩
  rw [← hys] at h
  have hyl : ys.length = xs.length - A0 := by rw [hys, List.length_drop]
  obtain ⟨a, cap, rfl, hcap, hcm⟩ := id h
  have hlm := h.length_le
  have s1 : (w.alloc (.cells #[.string { data := #[] }, .string { data := #[] }, .int .u8 0, .int .i64 0, .int .i64 0, .int .i64 0, .slice none 0 0, .int .i64 0, .int .i64 0, .int .u8 0, .int .i64 0, .int .i64 0, .int .u8 0, .int .i64 0, .string { data := #[] }, .slice none 0 0] 59)).heap.size = w.heap.size + 1 := by simp
  have s2 : ((w.alloc (.cells #[.string { data := #[] }, .string { data := #[] }, .int .u8 0, .int .i64 0, .int .i64 0, .int .i64 0, .slice none 0 0, .int .i64 0, .int .i64 0, .int .u8 0, .int .i64 0, .int .i64 0, .int .u8 0, .int .i64 0, .string { data := #[] }, .slice none 0 0] 59)).alloc (.cells #[.string { data := #[] }, .string { data := #[] }, .int .u8 0, .int .i64 0, .int .i64 0, .int .i64 0, .slice none 0 0, .int .i64 0, .int .i64 0, .int .u8 0, .int .i64 0, .int .i64 0, .int .u8 0, .int .i64 0, .string { data := #[] }, .slice none 0 0] 59)).heap.size = w.heap.size + 1 + 1 := by simp
  have b1 := BoxL.new w [.string { data := #[] }, .string { data := #[] }, .int .u8 0, .int .i64 0, .int .i64 0, .int .i64 0, .slice none 0 0, .int .i64 0, .int .i64 0, .int .u8 0, .int .i64 0, .int .i64 0, .int .u8 0, .int .i64 0, .string { data := #[] }, .slice none 0 0] 59
  have b2 := BoxL.new (w.alloc (.cells #[.string { data := #[] }, .string { data := #[] }, .int .u8 0, .int .i64 0, .int .i64 0, .int .i64 0, .slice none 0 0, .int .i64 0, .int .i64 0, .int .u8 0, .int .i64 0, .int .i64 0, .int .u8 0, .int .i64 0, .string { data := #[] }, .slice none 0 0] 59)) [.string { data := #[] }, .string { data := #[] }, .int .u8 0, .int .i64 0, .int .i64 0, .int .i64 0, .slice none 0 0, .int .i64 0, .int .i64 0, .int .u8 0, .int .i64 0, .int .i64 0, .int .u8 0, .int .i64 0, .string { data := #[] }, .slice none 0 0] 59
  rw [s1] at b2
  have S0 : Hid (RdSt w ((w.alloc (.cells #[.string { data := #[] }, .string { data := #[] }, .int .u8 0, .int .i64 0, .int .i64 0, .int .i64 0, .slice none 0 0, .int .i64 0, .int .i64 0, .int .u8 0, .int .i64 0, .int .i64 0, .int .u8 0, .int .i64 0, .string { data := #[] }, .slice none 0 0] 59)).alloc (.cells #[.string { data := #[] }, .string { data := #[] }, .int .u8 0, .int .i64 0, .int .i64 0, .int .i64 0, .slice none 0 0, .int .i64 0, .int .i64 0, .int .u8 0, .int .i64 0, .int .i64 0, .int .u8 0, .int .i64 0, .string { data := #[] }, .slice none 0 0] 59))) := Lib.hid ⟨((Ext.refl w).alloc _).alloc _, b1.ext ((Ext.refl _).alloc _), b2⟩
  have HB := Lib.hid h
  have HY := Lib.hid hys
  have HYl := Lib.hid hyl
  have HA0 := Lib.hid hA
  have HZi : Hid ((Tryz.prog.info? 59).map (·.size) = some ndZ.length) := Lib.hid info_ndL
  have HZs : Hid ((Tryz.prog.info? 59).map (·.size) = some ndZ.toArray.size) := Lib.hid info_ndL
  have HZ1 : Hid (ndZ.toArray.all (·.oneCell') = true) := Lib.hid (by unfold ndZ; simp [Value.oneCell'])
  clear s1 b1 b2 h hys hyl hA
  go_enter Tryz.func50, Tryz.ntmps50
  go_wp2_with fail
  have hz0 : w.heap.size + 1 + 1 ≤ ((w.alloc (.cells #[.string { data := #[] }, .string { data := #[] }, .int .u8 0, .int .i64 0, .int .i64 0, .int .i64 0, .slice none 0 0, .int .i64 0, .int .i64 0, .int .u8 0, .int .i64 0, .int .i64 0, .int .u8 0, .int .i64 0, .string { data := #[] }, .slice none 0 0] 59)).alloc (.cells #[.string { data := #[] }, .string { data := #[] }, .int .u8 0, .int .i64 0, .int .i64 0, .int .i64 0, .slice none 0 0, .int .i64 0, .int .i64 0, .int .u8 0, .int .i64 0, .int .i64 0, .int .u8 0, .int .i64 0, .string { data := #[] }, .slice none 0 0] 59)).heap.size := Nat.le_of_eq s2.symm
  clear s2
  generalize (w.alloc (.cells #[.string { data := #[] }, .string { data := #[] }, .int .u8 0, .int .i64 0, .int .i64 0, .int .i64 0, .slice none 0 0, .int .i64 0, .int .i64 0, .int .u8 0, .int .i64 0, .int .i64 0, .int .u8 0, .int .i64 0, .string { data := #[] }, .slice none 0 0] 59)).alloc (.cells #[.string { data := #[] }, .string { data := #[] }, .int .u8 0, .int .i64 0, .int .i64 0, .int .i64 0, .slice none 0 0, .int .i64 0, .int .i64 0, .int .u8 0, .int .i64 0, .int .i64 0, .int .u8 0, .int .i64 0, .string { data := #[] }, .slice none 0 0] 59) = W1 at *
  refine (rtextT_any 400 (by omega) (by omega) _ ys 0 (by omega) W1 (HB.out.ext S0.out.e) (by omega)).mono ?_
  rintro e wq ⟨rfl, hq⟩
  rcases hq with ⟨hno, rfl⟩ | ⟨idv, k1, A1, hy1, hB1, hl1, hp1, hs1, rfl⟩
  · have HF : Hid (rnd ys = none) := Lib.hid (by
      unfold rnd
      rw [show hdX 400 ys = none from hno]; rfl)
    clear hno
    go_upto_region 4 with (fail)
    have HLd := Lib.hid S0.out.xb.range
    have HTh : Hid (W1.there w.heap.size 0 ndZ.toArray.size) := Lib.hid (S0.out.pb.there (by rw [List.size_toArray]; exact Nat.le_refl _))
    have HBF := Lib.hid (RdSt.stored S0.out)
    have HP : Hid (RNode xs A0 w (.returned (.tuple #[.agg #[.string { data := #[] }, .string { data := #[] }, .int .u8 0, .int .i64 0, .int .i64 0, .int .i64 0, .slice none 0 0, .int .i64 0, .int .i64 0, .int .u8 0, .int .i64 0, .int .i64 0, .int .u8 0, .int .i64 0, .string { data := #[] }, .slice none 0 0], .int .i64 0])) (W1.setCells w.heap.size 0 ndZ)) := Lib.hid (RNode.bad (by rw [← HY.out]; exact HF.out) HBF.out.2)
    clear HF
    go_wp2_with (first | (refine wpList_load_mid rfl _ _ rfl _ _ rfl _ _ HLd.out Tryz.underlying59 rfl HZi.out ?_) | (refine wpList_store_mid rfl _ _ _ rfl _ _ _ rfl rfl HTh.out HZs.out HZ1.out ?_))
    generalize W1.setCells w.heap.size 0 ndZ = yF at *
    refine bodyPost_ret (rread_res Tryz.results50 _ _ w.heap.size _ ndZ rfl rfl rfl HBF.out.1.range) rfl ?_
    exact HP.out
  obtain rfl : A1 = k1 := by omega
  have HY1 : Hid (hdX 400 ys = some (idv, ys.drop A1)) := Lib.hid hy1
  clear hy1 hB1
  have hsk := fun w' => slice_from a ys.length cap (A1 : Int) (by omega) (by omega) w'
  rw [Int.toNat_natCast] at hsk
  go_wp2_with fail
  clear hsk
  refine (rtextT_any 20 (by omega) (by omega) _ ys A1 hl1 W1 ((HB.out.ext S0.out.e).drop hl1) (by omega)).mono ?_
  rintro e wq ⟨rfl, hq⟩
  rcases hq with ⟨hno, rfl⟩ | ⟨nmv, k2, A2, hy2, hB2, hl2, hp2, hs2, rfl⟩
  · have HF : Hid (rnd ys = none) := Lib.hid (by
      unfold rnd
      rw [HY1.out, Option.bind_some]
      simp only
      rw [hno]; rfl)
    clear hno
    go_upto_region 7 with (fail)
    have HLd := Lib.hid S0.out.xb.range
    have HTh : Hid (W1.there w.heap.size 0 ndZ.toArray.size) := Lib.hid (S0.out.pb.there (by rw [List.size_toArray]; exact Nat.le_refl _))
    have HBF := Lib.hid (RdSt.stored S0.out)
    have HP : Hid (RNode xs A0 w (.returned (.tuple #[.agg #[.string { data := #[] }, .string { data := #[] }, .int .u8 0, .int .i64 0, .int .i64 0, .int .i64 0, .slice none 0 0, .int .i64 0, .int .i64 0, .int .u8 0, .int .i64 0, .int .i64 0, .int .u8 0, .int .i64 0, .string { data := #[] }, .slice none 0 0], .int .i64 0])) (W1.setCells w.heap.size 0 ndZ)) := Lib.hid (RNode.bad (by rw [← HY.out]; exact HF.out) HBF.out.2)
    clear HF
    go_wp2_with (first | (refine wpList_load_mid rfl _ _ rfl _ _ rfl _ _ HLd.out Tryz.underlying59 rfl HZi.out ?_) | (refine wpList_store_mid rfl _ _ _ rfl _ _ _ rfl rfl HTh.out HZs.out HZ1.out ?_))
    generalize W1.setCells w.heap.size 0 ndZ = yF at *
    refine bodyPost_ret (rread_res Tryz.results50 _ _ w.heap.size _ ndZ rfl rfl rfl HBF.out.1.range) rfl ?_
    exact HP.out
  have HY2 := Lib.hid hy2
  clear hy2
  have hadd2 : IntKind.i64.wrap ((A1 : Int) + (k2 : Int)) = (A2 : Int) := by rw [IntWalk.i64_in _ (by omega)]; omega
  have hle2 : A1 ≤ A2 := by omega
  clear hB2
  have hsk := fun w' => slice_from a ys.length cap (A2 : Int) (by omega) (by omega) w'
  rw [Int.toNat_natCast] at hsk
  go_wp2_with fail
  clear hsk
  refine (rnums_lit ys A2 5 5 rfl hl2 (by omega) _ W1 ((HB.out.ext S0.out.e).drop hl2)).mono ?_
  rintro e w3 ⟨ga, gm, gc, n3, rfl, hE3, hq3⟩
  have S3 := Lib.hid (S0.out.ext hE3)
  have hz3 := hE3.size
  rcases hq3 with ⟨hno, rfl, rfl⟩ | ⟨l3, A3, hy3, hB3, hl3, ho3, hp3⟩
  · have HF : Hid (rnd ys = none) := Lib.hid (by
      unfold rnd
      rw [HY1.out, Option.bind_some]
      simp only
      rw [HY2.out, Option.bind_some]
      simp only
      rw [hno]; rfl)
    clear hno hE3
    go_upto_region 11 with (fail)
    have HLd := Lib.hid S3.out.xb.range
    have HTh : Hid (w3.there w.heap.size 0 ndZ.toArray.size) := Lib.hid (S3.out.pb.there (by rw [List.size_toArray]; exact Nat.le_refl _))
    have HBF := Lib.hid (RdSt.stored S3.out)
    have HP : Hid (RNode xs A0 w (.returned (.tuple #[.agg #[.string { data := #[] }, .string { data := #[] }, .int .u8 0, .int .i64 0, .int .i64 0, .int .i64 0, .slice none 0 0, .int .i64 0, .int .i64 0, .int .u8 0, .int .i64 0, .int .i64 0, .int .u8 0, .int .i64 0, .string { data := #[] }, .slice none 0 0], .int .i64 0])) (w3.setCells w.heap.size 0 ndZ)) := Lib.hid (RNode.bad (by rw [← HY.out]; exact HF.out) HBF.out.2)
    clear HF
    go_wp2_with (first | (refine wpList_load_mid rfl _ _ rfl _ _ rfl _ _ HLd.out Tryz.underlying59 rfl HZi.out ?_) | (refine wpList_store_mid rfl _ _ _ rfl _ _ _ rfl rfl HTh.out HZs.out HZ1.out ?_))
    generalize w3.setCells w.heap.size 0 ndZ = yF at *
    refine bodyPost_ret (rread_res Tryz.results50 _ _ w.heap.size _ ndZ rfl rfl rfl HBF.out.1.range) rfl ?_
    exact HP.out
  have hk3 : ((n3 : Int) == 0) = false := by have := hp3 (by omega); simp; omega
  obtain ⟨c0, c1, c2, c3, c4, rfl⟩ := five (readM_nums_inv hy3).1
  obtain ⟨g1, cap1, hv, hb1, hlt1, hc1⟩ := own_cells ho3 (by simp)
  injection hv with e1 e2 e3
  subst e1 e3
  obtain rfl : gm = 5 := e2
  have HG0 : Hid (∀ W, Ext w3 W → W.cell? ⟨g1, 0, none⟩ = some (.int .i64 c0) ∧ W.cell? ⟨g1, 1, none⟩ = some (.int .i64 c1) ∧ W.cell? ⟨g1, 2, none⟩ = some (.int .i64 c2) ∧ W.cell? ⟨g1, 3, none⟩ = some (.int .i64 c3) ∧ W.cell? ⟨g1, 4, none⟩ = some (.int .i64 c4)) := Lib.hid (fun W h => ⟨(h.cell (p := ⟨g1, 0, none⟩) hlt1).trans (hc1 0 (by simp)), (h.cell (p := ⟨g1, 1, none⟩) hlt1).trans (hc1 1 (by simp)), (h.cell (p := ⟨g1, 2, none⟩) hlt1).trans (hc1 2 (by simp)), (h.cell (p := ⟨g1, 3, none⟩) hlt1).trans (hc1 3 (by simp)), (h.cell (p := ⟨g1, 4, none⟩) hlt1).trans (hc1 4 (by simp))⟩)
  have ⟨q0, q1, q2, q3, q4⟩ := HG0.out w3 (Ext.refl _)
  clear hc1 ho3 hE3
  have HY3 := Lib.hid hy3
  clear hy3
  by_cases hbad : c0 < 0 ∨ 2 < c0 ∨ c4 < 0 ∨ 21 < c4
  · have HF : Hid (rnd ys = none) := Lib.hid (by
      unfold rnd
      rw [HY1.out, Option.bind_some]
      simp only
      rw [HY2.out, Option.bind_some]
      simp only
      rw [HY3.out, Option.bind_some]
      simp only [List.getD_cons_zero, List.getD_cons_succ]
      rw [if_pos hbad])
    clear HG0
    go_upto_region 10 with (fail)
    go_cut [69] from 44 to 69 (fun p w' => p = .bool true ∧ w3 = w')
    case first =>
      rcases (by omega : c0 < 0 ∨ (¬ c0 < 0 ∧ 2 < c0) ∨ (¬ c0 < 0 ∧ ¬ 2 < c0 ∧ c4 < 0) ∨ (¬ c0 < 0 ∧ ¬ 2 < c0 ∧ ¬ c4 < 0 ∧ 21 < c4)) with k1 | ⟨k1, k2⟩ | ⟨k1, k2, k3⟩ | ⟨k1, k2, k3, k4⟩
      all_goals
        clear hbad
        go_wp2_with fail
        go_meet
        case rel => exact ⟨by first | rfl | simp_all, rfl⟩
    case rest =>
    obtain ⟨rfl, rfl⟩ := hcut
    apply_assumption
    go_upto_region 11 with (fail)
    have HLd := Lib.hid S3.out.xb.range
    have HTh : Hid (w3.there w.heap.size 0 ndZ.toArray.size) := Lib.hid (S3.out.pb.there (by rw [List.size_toArray]; exact Nat.le_refl _))
    have HBF := Lib.hid (RdSt.stored S3.out)
    have HP : Hid (RNode xs A0 w (.returned (.tuple #[.agg #[.string { data := #[] }, .string { data := #[] }, .int .u8 0, .int .i64 0, .int .i64 0, .int .i64 0, .slice none 0 0, .int .i64 0, .int .i64 0, .int .u8 0, .int .i64 0, .int .i64 0, .int .u8 0, .int .i64 0, .string { data := #[] }, .slice none 0 0], .int .i64 0])) (w3.setCells w.heap.size 0 ndZ)) := Lib.hid (RNode.bad (by rw [← HY.out]; exact HF.out) HBF.out.2)
    clear HF
    go_wp2_with (first | (refine wpList_load_mid rfl _ _ rfl _ _ rfl _ _ HLd.out Tryz.underlying59 rfl HZi.out ?_) | (refine wpList_store_mid rfl _ _ _ rfl _ _ _ rfl rfl HTh.out HZs.out HZ1.out ?_))
    generalize w3.setCells w.heap.size 0 ndZ = yF at *
    refine bodyPost_ret (rread_res Tryz.results50 _ _ w.heap.size _ ndZ rfl rfl rfl HBF.out.1.range) rfl ?_
    exact HP.out
  have hc00 : ¬ c0 < 0 := by omega
  have hc01 : ¬ 2 < c0 := by omega
  have hc40 : ¬ c4 < 0 := by omega
  have hc41 : ¬ 21 < c4 := by omega
  clear hbad
  go_upto_region 12 with (fail)
  obtain ⟨K, rfl⟩ : ∃ K : Nat, c4 = (K : Int) := ⟨c4.toNat, by omega⟩
  have hadd3 : IntKind.i64.wrap ((A2 : Int) + (n3 : Int)) = (A3 : Int) := by rw [IntWalk.i64_in _ (by omega)]; omega
  have hle3 : A2 ≤ A3 := by omega
  clear hB3
  have HC3 : Hid (∀ W, Ext w3 W → W.cell? ⟨g1, 4, none⟩ = some (.int .i64 (K : Int))) := Lib.hid (fun W h => (HG0.out W h).2.2.2.2)
  go_upto_region 13 with (fail)
  clear q0 q1 q2 q3 q4
  have hsk := fun w' => slice_from a ys.length cap (A3 : Int) (by omega) (by omega) w'
  rw [Int.toNat_natCast] at hsk
  refine wp_region_held_drew (S := (fun w' => w'.cell? ⟨g1, 4, none⟩ = some (.int .i64 (K : Int)))) (by kernel_rfl) ?_ (fun hHeld => ?_)
  · (try dsimp only)
    (first | exact HC3.out _ (Ext.refl _).drew | exact HC3.out _ E4.out)
  refine take_w 0 (some 75) (v := ?_) (by kernel_rfl) (by kernel_rfl) (by kernel_rfl) (by kernel_rfl) (by kernel_rfl) (fun _ _ _ h => h) (by rfl) ?_ (by assumption) ?_
  rotate_left
  · (intro w hSw; (try dsimp only at hSw); go_simp; try with_reducible rfl)
  try simp only [Act.put, List.setIfInBounds_toArray, List.set_cons_zero, List.set_cons_succ]
  refine take_w 1 (some 76) (v := ?_) (by kernel_rfl) (by kernel_rfl) (by kernel_rfl) (by kernel_rfl) (by kernel_rfl) (fun _ _ _ h => h) (by rfl) ?_ (by assumption) ?_
  rotate_left
  · (intro w hSw; (try dsimp only at hSw); go_simp; try with_reducible rfl)
  try simp only [Act.put, List.setIfInBounds_toArray, List.set_cons_zero, List.set_cons_succ]
  refine take_w 2 (some 77) (v := ?_) (by kernel_rfl) (by kernel_rfl) (by kernel_rfl) (by kernel_rfl) (by kernel_rfl) (fun _ _ _ h => h) (by rfl) ?_ (by assumption) ?_
  rotate_left
  · (intro w hSw; (try dsimp only at hSw); go_simp; try with_reducible rfl)
  try simp only [Act.put, List.setIfInBounds_toArray, List.set_cons_zero, List.set_cons_succ]
  refine take_w 3 (some 78) (v := ?_) (by kernel_rfl) (by kernel_rfl) (by kernel_rfl) (by kernel_rfl) (by kernel_rfl) (fun _ _ _ h => h) (by rfl) ?_ (by assumption) ?_
  rotate_left
  · (intro w hSw; (try dsimp only at hSw); go_simp; try with_reducible rfl)
  try simp only [Act.put, List.setIfInBounds_toArray, List.set_cons_zero, List.set_cons_succ]
  refine take_w 4 (some 79) (v := ?_) (by kernel_rfl) (by kernel_rfl) (by kernel_rfl) (by kernel_rfl) (by kernel_rfl) (fun _ _ _ h => h) (by rfl) ?_ (by assumption) ?_
  rotate_left
  · (intro w hSw; (try dsimp only at hSw); go_simp; try with_reducible rfl)
  try simp only [Act.put, List.setIfInBounds_toArray, List.set_cons_zero, List.set_cons_succ]
  refine take_w 5 (some 80) (v := ?_) (by kernel_rfl) (by kernel_rfl) (by kernel_rfl) (by kernel_rfl) (by kernel_rfl) (fun _ _ _ h => h) (by rfl) ?_ (by assumption) ?_
  rotate_left
  · (intro w hSw; (try dsimp only at hSw); go_simp; try with_reducible rfl)
  try simp only [Act.put, List.setIfInBounds_toArray, List.set_cons_zero, List.set_cons_succ]
  refine ready_one 6 (by kernel_rfl) (by kernel_rfl) (by rfl) (fun Kc hKc => ?_)
  go_simp
  refine (rnums_any ys A3 K hl3 (by omega) _ _ ((HB.out.ext (S3.out.e.trans (Ext.refl _).drew)).drop hl3)).mono ?_
  rintro e w4 ⟨da, dm, dc, n4, rfl, hE4, hq4⟩
  have E4 := Lib.hid ((Ext.refl w3).drew.trans hE4)
  have HQ4 := Lib.hid hq4
  clear hE4 hq4
  try go_wp2_with fail
  refine hKc.out _ _ ?_ (fun hHeld => ?_)
  · (try dsimp only)
    (first | exact HC3.out _ (Ext.refl _).drew | exact HC3.out _ E4.out)
  clear hKc Kc
  try simp only [Act.put, List.setIfInBounds_toArray, List.set_cons_zero, List.set_cons_succ]
  refine take_w 7 (some 74) (v := ?_) (by kernel_rfl) (by kernel_rfl) (by kernel_rfl) (by kernel_rfl) (by kernel_rfl) (fun _ _ _ h => h) (by rfl) ?_ (by assumption) ?_
  rotate_left
  · (intro w hSw; (try dsimp only at hSw); go_simp; try with_reducible rfl)
  try simp only [Act.put, List.setIfInBounds_toArray, List.set_cons_zero, List.set_cons_succ]
  refine take_w 8 (some 82) (v := ?_) (by kernel_rfl) (by kernel_rfl) (by kernel_rfl) (by kernel_rfl) (by kernel_rfl) (fun _ _ _ h => h) (by rfl) ?_ (by assumption) ?_
  rotate_left
  · (intro w hSw; (try dsimp only at hSw); go_simp; try with_reducible rfl)
  try simp only [Act.put, List.setIfInBounds_toArray, List.set_cons_zero, List.set_cons_succ]
  refine take_w 9 (some 83) (v := ?_) (by kernel_rfl) (by kernel_rfl) (by kernel_rfl) (by kernel_rfl) (by kernel_rfl) (fun _ _ _ h => h) (by rfl) ?_ (by assumption) ?_
  rotate_left
  · (intro w hSw; (try dsimp only at hSw); go_simp; try with_reducible rfl)
  try simp only [Act.put, List.setIfInBounds_toArray, List.set_cons_zero, List.set_cons_succ]
  refine take_w 10 (some 11) (v := ?_) (by kernel_rfl) (by kernel_rfl) (by kernel_rfl) (by kernel_rfl) (by kernel_rfl) (fun _ _ _ h => h) (by rfl) ?_ (by assumption) ?_
  rotate_left
  · (intro w hSw; (try dsimp only at hSw); go_simp; try with_reducible rfl)
  try simp only [Act.put, List.setIfInBounds_toArray, List.set_cons_zero, List.set_cons_succ]
  refine take_w 11 (some 9) (v := ?_) (by kernel_rfl) (by kernel_rfl) (by kernel_rfl) (by kernel_rfl) (by kernel_rfl) (fun _ _ _ h => h) (by rfl) ?_ (by assumption) ?_
  rotate_left
  · (intro w hSw; (try dsimp only at hSw); go_simp; try with_reducible rfl)
  try simp only [Act.put, List.setIfInBounds_toArray, List.set_cons_zero, List.set_cons_succ]
  refine wpAnyH_done (by kernel_rfl) ?_ _
  clear hsk
  have S4 := Lib.hid (S3.out.ext E4.out)
  have hz4 := E4.out.size
  have HG1 : Hid (∀ W, Ext w4 W → W.cell? ⟨g1, 0, none⟩ = some (.int .i64 c0) ∧ W.cell? ⟨g1, 1, none⟩ = some (.int .i64 c1) ∧ W.cell? ⟨g1, 2, none⟩ = some (.int .i64 c2) ∧ W.cell? ⟨g1, 3, none⟩ = some (.int .i64 c3)) := Lib.hid (fun W h => by
    obtain ⟨a0, a1, a2, a3, -⟩ := HG0.out W (E4.out.trans h)
    exact ⟨a0, a1, a2, a3⟩)
  have q4 := HC3.out w4 E4.out
  clear HG0
  rcases HQ4.out with ⟨hno, rfl, rfl⟩ | ⟨af, A4, hy4, hB4, hl4, ho4, hp4⟩
  · have hK : (0 : Int) < (K : Int) := by
      rcases Nat.eq_zero_or_pos K with h0 | h0
      · subst h0; simp [readM] at hno
      · omega
    have HF : Hid (rnd ys = none) := Lib.hid (by
      unfold rnd
      rw [HY1.out, Option.bind_some]
      simp only
      rw [HY2.out, Option.bind_some]
      simp only
      rw [HY3.out, Option.bind_some]
      simp only [List.getD_cons_zero, List.getD_cons_succ]
      rw [if_neg (by omega), Int.toNat_natCast, hno]; rfl)
    clear hno HQ4 HG1
    go_upto_region 15 with (fail)
    have HLd := Lib.hid S4.out.xb.range
    have HTh : Hid (w4.there w.heap.size 0 ndZ.toArray.size) := Lib.hid (S4.out.pb.there (by rw [List.size_toArray]; exact Nat.le_refl _))
    have HBF := Lib.hid (RdSt.stored S4.out)
    have HP : Hid (RNode xs A0 w (.returned (.tuple #[.agg #[.string { data := #[] }, .string { data := #[] }, .int .u8 0, .int .i64 0, .int .i64 0, .int .i64 0, .slice none 0 0, .int .i64 0, .int .i64 0, .int .u8 0, .int .i64 0, .int .i64 0, .int .u8 0, .int .i64 0, .string { data := #[] }, .slice none 0 0], .int .i64 0])) (w4.setCells w.heap.size 0 ndZ)) := Lib.hid (RNode.bad (by rw [← HY.out]; exact HF.out) HBF.out.2)
    clear HF
    go_wp2_with (first | (refine wpList_load_mid rfl _ _ rfl _ _ rfl _ _ HLd.out Tryz.underlying59 rfl HZi.out ?_) | (refine wpList_store_mid rfl _ _ _ rfl _ _ _ rfl rfl HTh.out HZs.out HZ1.out ?_))
    generalize w4.setCells w.heap.size 0 ndZ = yF at *
    refine bodyPost_ret (rread_res Tryz.results50 _ _ w.heap.size _ ndZ rfl rfl rfl HBF.out.1.range) rfl ?_
    exact HP.out
  have HO4 := Lib.hid (show OwnN 3 w3.heap.size w4 (.slice da dm dc) af from ho4)
  have HY4 := Lib.hid hy4
  have hadd4 : IntKind.i64.wrap ((A3 : Int) + (n4 : Int)) = (A4 : Int) := by rw [IntWalk.i64_in _ (by omega)]; omega
  have hle4 : A3 ≤ A4 := by omega
  clear hB4
  clear ho4 hy4
  have hor : ((n4 : Int) == 0) = false ∨ (((n4 : Int) == 0) = true ∧ ¬ (0 : Int) < (K : Int)) := by
    rcases Nat.eq_zero_or_pos n4 with h0 | h0
    · right
      refine ⟨by simp [h0], fun h => ?_⟩
      have := hp4 (by omega)
      omega
    · left; simp; omega
  go_upto_region 14 with (fail)
  go_cut [91] from 84 to 91 (fun p w' => p = .bool false ∧ w4 = w')
  case first =>
    rcases hor with hn40 | ⟨hn40, hn41⟩
    all_goals
      go_wp2_with fail
      go_meet
      case rel => exact ⟨by first | rfl | simp_all, rfl⟩
  case rest =>
  obtain ⟨rfl, rfl⟩ := hcut
  apply_assumption
  go_upto_region 16 with (fail)
  clear q4 hor
  clear HC3 HQ4
  have hsk := fun w' => slice_from a ys.length cap (A4 : Int) (by omega) (by omega) w'
  rw [Int.toNat_natCast] at hsk
  go_wp2_with fail
  clear hsk
  refine (rnums_lit ys A4 5 5 rfl hl4 (by omega) _ w4 ((HB.out.ext S4.out.e).drop hl4)).mono ?_
  rintro e w5 ⟨ga, gm, gc, n5, rfl, hE5, hq5⟩
  have S5 := Lib.hid (S4.out.ext hE5)
  have E5 := Lib.hid hE5
  have HG1 : Hid (∀ W, Ext w5 W → W.cell? ⟨g1, 0, none⟩ = some (.int .i64 c0) ∧ W.cell? ⟨g1, 1, none⟩ = some (.int .i64 c1) ∧ W.cell? ⟨g1, 2, none⟩ = some (.int .i64 c2) ∧ W.cell? ⟨g1, 3, none⟩ = some (.int .i64 c3)) := Lib.hid (fun W h => HG1.out W (hE5.trans h))
  clear hE5
  rcases hq5 with ⟨hno, rfl, rfl⟩ | ⟨l5, A5, hy5, hB5, hl5, ho5, hp5⟩
  · have HF : Hid (rnd ys = none) := Lib.hid (by
      unfold rnd
      rw [HY1.out, Option.bind_some]
      simp only
      rw [HY2.out, Option.bind_some]
      simp only
      rw [HY3.out, Option.bind_some]
      simp only [List.getD_cons_zero, List.getD_cons_succ]
      rw [if_neg (by omega), Int.toNat_natCast, HY4.out, Option.bind_some]
      simp only
      rw [hno]; rfl)
    clear hno HG1
    go_upto_region 19 with (fail)
    have HLd := Lib.hid S5.out.xb.range
    have HTh : Hid (w5.there w.heap.size 0 ndZ.toArray.size) := Lib.hid (S5.out.pb.there (by rw [List.size_toArray]; exact Nat.le_refl _))
    have HBF := Lib.hid (RdSt.stored S5.out)
    have HP : Hid (RNode xs A0 w (.returned (.tuple #[.agg #[.string { data := #[] }, .string { data := #[] }, .int .u8 0, .int .i64 0, .int .i64 0, .int .i64 0, .slice none 0 0, .int .i64 0, .int .i64 0, .int .u8 0, .int .i64 0, .int .i64 0, .int .u8 0, .int .i64 0, .string { data := #[] }, .slice none 0 0], .int .i64 0])) (w5.setCells w.heap.size 0 ndZ)) := Lib.hid (RNode.bad (by rw [← HY.out]; exact HF.out) HBF.out.2)
    clear HF
    go_wp2_with (first | (refine wpList_load_mid rfl _ _ rfl _ _ rfl _ _ HLd.out Tryz.underlying59 rfl HZi.out ?_) | (refine wpList_store_mid rfl _ _ _ rfl _ _ _ rfl rfl HTh.out HZs.out HZ1.out ?_))
    generalize w5.setCells w.heap.size 0 ndZ = yF at *
    refine bodyPost_ret (rread_res Tryz.results50 _ _ w.heap.size _ ndZ rfl rfl rfl HBF.out.1.range) rfl ?_
    exact HP.out
  have hk5 : ((n5 : Int) == 0) = false := by have := hp5 (by omega); simp; omega
  obtain ⟨m0, m1, m2, m3, m4, rfl⟩ := five (readM_nums_inv hy5).1
  obtain ⟨g2, cap2, hv, hb2, hlt2, hc2⟩ := own_cells ho5 (by simp)
  injection hv with e1 e2 e3
  subst e1 e3
  obtain rfl : gm = 5 := e2
  have HG2 : Hid (∀ W, Ext w5 W → W.cell? ⟨g2, 0, none⟩ = some (.int .i64 m0) ∧ W.cell? ⟨g2, 1, none⟩ = some (.int .i64 m1) ∧ W.cell? ⟨g2, 2, none⟩ = some (.int .i64 m2) ∧ W.cell? ⟨g2, 3, none⟩ = some (.int .i64 m3) ∧ W.cell? ⟨g2, 4, none⟩ = some (.int .i64 m4)) := Lib.hid (fun W h => ⟨(h.cell (p := ⟨g2, 0, none⟩) hlt2).trans (hc2 0 (by simp)), (h.cell (p := ⟨g2, 1, none⟩) hlt2).trans (hc2 1 (by simp)), (h.cell (p := ⟨g2, 2, none⟩) hlt2).trans (hc2 2 (by simp)), (h.cell (p := ⟨g2, 3, none⟩) hlt2).trans (hc2 3 (by simp)), (h.cell (p := ⟨g2, 4, none⟩) hlt2).trans (hc2 4 (by simp))⟩)
  have ⟨r0, r1, r2, r3, r4⟩ := HG2.out w5 (Ext.refl _)
  have hE35 := E5.out.size
  clear hc2 ho5
  have HY5 := Lib.hid hy5
  clear hy5
  by_cases hbad : m2 < 0 ∨ 6 < m2
  · have HF : Hid (rnd ys = none) := Lib.hid (by
      unfold rnd
      rw [HY1.out, Option.bind_some]
      simp only
      rw [HY2.out, Option.bind_some]
      simp only
      rw [HY3.out, Option.bind_some]
      simp only [List.getD_cons_zero, List.getD_cons_succ]
      rw [if_neg (by omega), Int.toNat_natCast, HY4.out, Option.bind_some]
      simp only
      rw [HY5.out, Option.bind_some]
      simp only [List.getD_cons_zero, List.getD_cons_succ]
      rw [if_pos hbad])
    clear HG1 HG2
    go_upto_region 18 with (fail)
    go_cut [116] from 103 to 116 (fun p w' => p = .bool true ∧ w5 = w')
    case first =>
      rcases (by omega : m2 < 0 ∨ (¬ m2 < 0 ∧ 6 < m2)) with k1 | ⟨k1, k2⟩
      all_goals
        clear hbad
        go_wp2_with fail
        go_meet
        case rel => exact ⟨by first | rfl | simp_all, rfl⟩
    case rest =>
    obtain ⟨rfl, rfl⟩ := hcut
    apply_assumption
    go_upto_region 19 with (fail)
    have HLd := Lib.hid S5.out.xb.range
    have HTh : Hid (w5.there w.heap.size 0 ndZ.toArray.size) := Lib.hid (S5.out.pb.there (by rw [List.size_toArray]; exact Nat.le_refl _))
    have HBF := Lib.hid (RdSt.stored S5.out)
    have HP : Hid (RNode xs A0 w (.returned (.tuple #[.agg #[.string { data := #[] }, .string { data := #[] }, .int .u8 0, .int .i64 0, .int .i64 0, .int .i64 0, .slice none 0 0, .int .i64 0, .int .i64 0, .int .u8 0, .int .i64 0, .int .i64 0, .int .u8 0, .int .i64 0, .string { data := #[] }, .slice none 0 0], .int .i64 0])) (w5.setCells w.heap.size 0 ndZ)) := Lib.hid (RNode.bad (by rw [← HY.out]; exact HF.out) HBF.out.2)
    clear HF
    go_wp2_with (first | (refine wpList_load_mid rfl _ _ rfl _ _ rfl _ _ HLd.out Tryz.underlying59 rfl HZi.out ?_) | (refine wpList_store_mid rfl _ _ _ rfl _ _ _ rfl rfl HTh.out HZs.out HZ1.out ?_))
    generalize w5.setCells w.heap.size 0 ndZ = yF at *
    refine bodyPost_ret (rread_res Tryz.results50 _ _ w.heap.size _ ndZ rfl rfl rfl HBF.out.1.range) rfl ?_
    exact HP.out
  have hm20 : ¬ m2 < 0 := by omega
  have hm21 : ¬ 6 < m2 := by omega
  clear hbad
  go_upto_region 20 with (fail)
  clear r0 r1 r2 r3 r4
  have hadd5 : IntKind.i64.wrap ((A4 : Int) + (n5 : Int)) = (A5 : Int) := by rw [IntWalk.i64_in _ (by omega)]; omega
  have hle5 : A4 ≤ A5 := by omega
  clear hB5
  have hsk := fun w' => slice_from a ys.length cap (A5 : Int) (by omega) (by omega) w'
  rw [Int.toNat_natCast] at hsk
  go_wp2_with fail
  clear hsk
  refine (rtakeV_any _ (ys.drop A5) w5 ((HB.out.ext S5.out.e).drop hl5)).mono ?_
  intro e wv hq
  unfold RTakePost at hq
  cases hT : takeV' (ys.drop A5) with
  | none =>
    rw [hT] at hq
    obtain ⟨t0, v0, rfl, rfl, rfl, hE⟩ := hq
    have HF : Hid (rnd ys = none) := Lib.hid (by
      unfold rnd
      rw [HY1.out, Option.bind_some]
      simp only
      rw [HY2.out, Option.bind_some]
      simp only
      rw [HY3.out, Option.bind_some]
      simp only [List.getD_cons_zero, List.getD_cons_succ]
      rw [if_neg (by omega), Int.toNat_natCast, HY4.out, Option.bind_some]
      simp only
      rw [HY5.out, Option.bind_some]
      simp only [List.getD_cons_zero, List.getD_cons_succ]
      rw [if_neg (by omega), hT]; rfl)
    have S6 := Lib.hid ((S5.out.ext hE).ext ((Ext.refl wv).alloc (.cells #[.int .u8 0, .int .i64 0, .string { data := #[] }, .slice none 0 0] 43)))
    clear hE hT HG1 HG2
    go_upto_region 22 with (fail)
    generalize wv.alloc (.cells #[.int .u8 0, .int .i64 0, .string { data := #[] }, .slice none 0 0] 43) = VV at *
    go_upto_region 23 with (fail)
    have HLd := Lib.hid S6.out.xb.range
    have HTh : Hid (VV.there w.heap.size 0 ndZ.toArray.size) := Lib.hid (S6.out.pb.there (by rw [List.size_toArray]; exact Nat.le_refl _))
    have HBF := Lib.hid (RdSt.stored S6.out)
    have HP : Hid (RNode xs A0 w (.returned (.tuple #[.agg #[.string { data := #[] }, .string { data := #[] }, .int .u8 0, .int .i64 0, .int .i64 0, .int .i64 0, .slice none 0 0, .int .i64 0, .int .i64 0, .int .u8 0, .int .i64 0, .int .i64 0, .int .u8 0, .int .i64 0, .string { data := #[] }, .slice none 0 0], .int .i64 0])) (VV.setCells w.heap.size 0 ndZ)) := Lib.hid (RNode.bad (by rw [← HY.out]; exact HF.out) HBF.out.2)
    clear HF
    go_wp2_with (first | (refine wpList_load_mid rfl _ _ rfl _ _ rfl _ _ HLd.out Tryz.underlying59 rfl HZi.out ?_) | (refine wpList_store_mid rfl _ _ _ rfl _ _ _ rfl rfl HTh.out HZs.out HZ1.out ?_))
    generalize VV.setCells w.heap.size 0 ndZ = yF at *
    refine bodyPost_ret (rread_res Tryz.results50 _ _ w.heap.size _ ndZ rfl rfl rfl HBF.out.1.range) rfl ?_
    exact HP.out
  | some p =>
    obtain ⟨tv, rV⟩ := p
    rw [hT] at hq
    obtain ⟨v0, kV, rfl, hk0V, hkVl, hrV, hE, hO⟩ := hq
    obtain ⟨kV4, nV4, sV4, aV4, mV4, cV4, rfl⟩ := ownT_four hO
    rw [List.length_drop] at hkVl
    rw [List.drop_drop] at hrV
    subst hrV
    obtain ⟨A6, hA6⟩ : ∃ A6, A6 = A5 + kV := ⟨_, rfl⟩
    rw [← hA6] at hT
    have HT6 := Lib.hid hT
    have hkzV : ((kV : Int) == 0) = false := by simp; omega
    have hadd6 : IntKind.i64.wrap ((A5 : Int) + (kV : Int)) = (A6 : Int) := by rw [IntWalk.i64_in _ (by omega)]; omega
    have hA60 : 0 < A6 := by omega
    have hA6l : A6 ≤ ys.length := by omega
    clear hA6
    have eA := (Ext.refl wv).alloc (.cells #[.int .u8 kV4, .int .i64 nV4, .string sV4, .slice aV4 mV4 cV4] 43)
    have S6 := Lib.hid ((S5.out.ext hE).ext eA)
    have hzv := hE.size
    have hbx := BoxL.new wv [.int .u8 kV4, .int .i64 nV4, .string sV4, .slice aV4 mV4 cV4] 43
    have HOT := Lib.hid (hO.ext eA)
    have E46 := Lib.hid ((E5.out.trans hE).trans eA)
    have HG1' := HG1.out _ (hE.trans eA)
    have HG2' := HG2.out _ (hE.trans eA)
    have hsv : wv.heap.size < (wv.alloc (.cells #[.int .u8 kV4, .int .i64 nV4, .string sV4, .slice aV4 mV4 cV4] 43)).heap.size := hbx.lt
    clear hT hE hO eA HG1 HG2
    go_upto_region 22 with (fail)
    generalize wv.alloc (.cells #[.int .u8 kV4, .int .i64 nV4, .string sV4, .slice aV4 mV4 cV4] 43) = VV at *
    have HS : Hid (∀ W, VV.grownBy W (some (w.heap.size + 1)) → W.cell? ⟨g1, 0, none⟩ = some (.int .i64 c0) ∧ W.cell? ⟨g1, 1, none⟩ = some (.int .i64 c1) ∧ W.cell? ⟨g1, 2, none⟩ = some (.int .i64 c2) ∧ W.cell? ⟨g1, 3, none⟩ = some (.int .i64 c3) ∧ W.cell? ⟨g2, 0, none⟩ = some (.int .i64 m0) ∧ W.cell? ⟨g2, 1, none⟩ = some (.int .i64 m1) ∧ W.cell? ⟨g2, 2, none⟩ = some (.int .i64 m2) ∧ W.cell? ⟨g2, 3, none⟩ = some (.int .i64 m3) ∧ W.cell? ⟨g2, 4, none⟩ = some (.int .i64 m4) ∧ W.cell? ⟨wv.heap.size, 0, none⟩ = some (.int .u8 kV4) ∧ W.cell? ⟨wv.heap.size, 1, none⟩ = some (.int .i64 nV4) ∧ W.cell? ⟨wv.heap.size, 2, none⟩ = some (.string sV4) ∧ W.cell? ⟨wv.heap.size, 3, none⟩ = some (.slice aV4 mV4 cV4)) := Lib.hid (fun W h => by
      have f := fun (b j : Nat) (hb : b < VV.heap.size) (hne : w.heap.size + 1 ≠ b) => h.cell_far ⟨b, j, none⟩ hb (fun e => by injection e with e; exact hne e.symm)
      obtain ⟨x0, x1, x2, x3⟩ := HG1'
      obtain ⟨y0, y1, y2, y3, y4⟩ := HG2'
      have v0 := hbx.cell 0 _ rfl
      have v1 := hbx.cell 1 _ rfl
      have v2 := hbx.cell 2 _ rfl
      have v3 := hbx.cell 3 _ rfl
      exact ⟨(f g1 0 (by omega) (by omega)).trans x0, (f g1 1 (by omega) (by omega)).trans x1, (f g1 2 (by omega) (by omega)).trans x2, (f g1 3 (by omega) (by omega)).trans x3, (f g2 0 (by omega) (by omega)).trans y0, (f g2 1 (by omega) (by omega)).trans y1, (f g2 2 (by omega) (by omega)).trans y2, (f g2 3 (by omega) (by omega)).trans y3, (f g2 4 (by omega) (by omega)).trans y4, (f wv.heap.size 0 (by omega) (by omega)).trans v0, (f wv.heap.size 1 (by omega) (by omega)).trans v1, (f wv.heap.size 2 (by omega) (by omega)).trans v2, (f wv.heap.size 3 (by omega) (by omega)).trans v3⟩)
    clear HG1' HG2' hbx
    have hu0 : c0 % 256 = c0 := by omega
    have hu1 : IntKind.u8.wrap c0 = c0 := IntWalk.u8_in _ (by omega)
    have hu2 : m2 % 256 = m2 := by omega
    have hu3 : IntKind.u8.wrap m2 = m2 := IntWalk.u8_in _ (by omega)
    go_upto_region 24 with (fail)
    refine wp_region_held_drew (S := (fun w' => w'.cell? ⟨g1, 0, none⟩ = some (.int .i64 c0) ∧ w'.cell? ⟨g1, 1, none⟩ = some (.int .i64 c1) ∧ w'.cell? ⟨g1, 2, none⟩ = some (.int .i64 c2) ∧ w'.cell? ⟨g1, 3, none⟩ = some (.int .i64 c3) ∧ w'.cell? ⟨g2, 0, none⟩ = some (.int .i64 m0) ∧ w'.cell? ⟨g2, 1, none⟩ = some (.int .i64 m1) ∧ w'.cell? ⟨g2, 2, none⟩ = some (.int .i64 m2) ∧ w'.cell? ⟨g2, 3, none⟩ = some (.int .i64 m3) ∧ w'.cell? ⟨g2, 4, none⟩ = some (.int .i64 m4) ∧ w'.cell? ⟨wv.heap.size, 0, none⟩ = some (.int .u8 kV4) ∧ w'.cell? ⟨wv.heap.size, 1, none⟩ = some (.int .i64 nV4) ∧ w'.cell? ⟨wv.heap.size, 2, none⟩ = some (.string sV4) ∧ w'.cell? ⟨wv.heap.size, 3, none⟩ = some (.slice aV4 mV4 cV4))) (by kernel_rfl) ?_ (fun hHeld => ?_)
    · (try dsimp only)
      (first | exact HS.out _ HG5.out | exact HS.out _ (grown_ext (Ext.refl _).drew _))
    refine take_w 0 (some 131) (v := ?_) (by kernel_rfl) (by kernel_rfl) (by kernel_rfl) (by kernel_rfl) (by kernel_rfl) (fun _ _ _ h => h) (by rfl) ?_ (by assumption) ?_
    rotate_left
    · (intro w hSw; (try dsimp only at hSw); go_simp; try with_reducible rfl)
    try simp only [Act.put, List.setIfInBounds_toArray, List.set_cons_zero, List.set_cons_succ]
    refine take_w 1 (some 132) (v := ?_) (by kernel_rfl) (by kernel_rfl) (by kernel_rfl) (by kernel_rfl) (by kernel_rfl) (fun _ _ _ h => h) (by rfl) ?_ (by assumption) ?_
    rotate_left
    · (intro w hSw; (try dsimp only at hSw); go_simp; try with_reducible rfl)
    try simp only [Act.put, List.setIfInBounds_toArray, List.set_cons_zero, List.set_cons_succ]
    refine take_w 2 (some 133) (v := ?_) (by kernel_rfl) (by kernel_rfl) (by kernel_rfl) (by kernel_rfl) (by kernel_rfl) (fun _ _ _ h => h) (by rfl) ?_ (by assumption) ?_
    rotate_left
    · (intro w hSw; (try dsimp only at hSw); go_simp; try with_reducible rfl)
    try simp only [Act.put, List.setIfInBounds_toArray, List.set_cons_zero, List.set_cons_succ]
    refine take_w 3 (some 134) (v := ?_) (by kernel_rfl) (by kernel_rfl) (by kernel_rfl) (by kernel_rfl) (by kernel_rfl) (fun _ _ _ h => h) (by rfl) ?_ (by assumption) ?_
    rotate_left
    · (intro w hSw; (try dsimp only at hSw); go_simp; try with_reducible rfl)
    try simp only [Act.put, List.setIfInBounds_toArray, List.set_cons_zero, List.set_cons_succ]
    refine take_w 4 (some 135) (v := ?_) (by kernel_rfl) (by kernel_rfl) (by kernel_rfl) (by kernel_rfl) (by kernel_rfl) (fun _ _ _ h => h) (by rfl) ?_ (by assumption) ?_
    rotate_left
    · (intro w hSw; (try dsimp only at hSw); go_simp; try with_reducible rfl)
    try simp only [Act.put, List.setIfInBounds_toArray, List.set_cons_zero, List.set_cons_succ]
    refine take_w 5 (some 136) (v := ?_) (by kernel_rfl) (by kernel_rfl) (by kernel_rfl) (by kernel_rfl) (by kernel_rfl) (fun _ _ _ h => h) (by rfl) ?_ (by assumption) ?_
    rotate_left
    · (intro w hSw; (try dsimp only at hSw); go_simp; try with_reducible rfl)
    try simp only [Act.put, List.setIfInBounds_toArray, List.set_cons_zero, List.set_cons_succ]
    refine take_w 6 (some 137) (v := ?_) (by kernel_rfl) (by kernel_rfl) (by kernel_rfl) (by kernel_rfl) (by kernel_rfl) (fun _ _ _ h => h) (by rfl) ?_ (by assumption) ?_
    rotate_left
    · (intro w hSw; (try dsimp only at hSw); go_simp; try with_reducible rfl)
    try simp only [Act.put, List.setIfInBounds_toArray, List.set_cons_zero, List.set_cons_succ]
    refine take_w 7 (some 138) (v := ?_) (by kernel_rfl) (by kernel_rfl) (by kernel_rfl) (by kernel_rfl) (by kernel_rfl) (fun _ _ _ h => h) (by rfl) ?_ (by assumption) ?_
    rotate_left
    · (intro w hSw; (try dsimp only at hSw); go_simp; try with_reducible rfl)
    try simp only [Act.put, List.setIfInBounds_toArray, List.set_cons_zero, List.set_cons_succ]
    refine take_w 8 (some 139) (v := ?_) (by kernel_rfl) (by kernel_rfl) (by kernel_rfl) (by kernel_rfl) (by kernel_rfl) (fun _ _ _ h => h) (by rfl) ?_ (by assumption) ?_
    rotate_left
    · (intro w hSw; (try dsimp only at hSw); go_simp; try with_reducible rfl)
    try simp only [Act.put, List.setIfInBounds_toArray, List.set_cons_zero, List.set_cons_succ]
    refine take_w 9 (some 140) (v := ?_) (by kernel_rfl) (by kernel_rfl) (by kernel_rfl) (by kernel_rfl) (by kernel_rfl) (fun _ _ _ h => h) (by rfl) ?_ (by assumption) ?_
    rotate_left
    · (intro w hSw; (try dsimp only at hSw); go_simp; try with_reducible rfl)
    try simp only [Act.put, List.setIfInBounds_toArray, List.set_cons_zero, List.set_cons_succ]
    refine take_w 10 (some 141) (v := ?_) (by kernel_rfl) (by kernel_rfl) (by kernel_rfl) (by kernel_rfl) (by kernel_rfl) (fun _ _ _ h => h) (by rfl) ?_ (by assumption) ?_
    rotate_left
    · (intro w hSw; (try dsimp only at hSw); go_simp; try with_reducible rfl)
    try simp only [Act.put, List.setIfInBounds_toArray, List.set_cons_zero, List.set_cons_succ]
    refine take_w 11 (some 142) (v := ?_) (by kernel_rfl) (by kernel_rfl) (by kernel_rfl) (by kernel_rfl) (by kernel_rfl) (fun _ _ _ h => h) (by rfl) ?_ (by assumption) ?_
    rotate_left
    · (intro w hSw; (try dsimp only at hSw); go_simp; try with_reducible rfl)
    try simp only [Act.put, List.setIfInBounds_toArray, List.set_cons_zero, List.set_cons_succ]
    refine take_w 12 (some 143) (v := ?_) (by kernel_rfl) (by kernel_rfl) (by kernel_rfl) (by kernel_rfl) (by kernel_rfl) (fun _ _ _ h => h) (by rfl) ?_ (by assumption) ?_
    rotate_left
    · (intro w hSw; (try dsimp only at hSw); go_simp; try with_reducible rfl)
    try simp only [Act.put, List.setIfInBounds_toArray, List.set_cons_zero, List.set_cons_succ]
    refine take_w 13 (some 144) (v := ?_) (by kernel_rfl) (by kernel_rfl) (by kernel_rfl) (by kernel_rfl) (by kernel_rfl) (fun _ _ _ h => h) (by rfl) ?_ (by assumption) ?_
    rotate_left
    · (intro w hSw; (try dsimp only at hSw); go_simp; try with_reducible rfl)
    try simp only [Act.put, List.setIfInBounds_toArray, List.set_cons_zero, List.set_cons_succ]
    refine take_w 14 (some 145) (v := ?_) (by kernel_rfl) (by kernel_rfl) (by kernel_rfl) (by kernel_rfl) (by kernel_rfl) (fun _ _ _ h => h) (by rfl) ?_ (by assumption) ?_
    rotate_left
    · (intro w hSw; (try dsimp only at hSw); go_simp; try with_reducible rfl)
    try simp only [Act.put, List.setIfInBounds_toArray, List.set_cons_zero, List.set_cons_succ]
    refine take_w 15 (some 146) (v := ?_) (by kernel_rfl) (by kernel_rfl) (by kernel_rfl) (by kernel_rfl) (by kernel_rfl) (fun _ _ _ h => h) (by rfl) ?_ (by assumption) ?_
    rotate_left
    · (intro w hSw; (try dsimp only at hSw); go_simp; try with_reducible rfl)
    try simp only [Act.put, List.setIfInBounds_toArray, List.set_cons_zero, List.set_cons_succ]
    refine take_w 16 (some 147) (v := ?_) (by kernel_rfl) (by kernel_rfl) (by kernel_rfl) (by kernel_rfl) (by kernel_rfl) (fun _ _ _ h => h) (by rfl) ?_ (by assumption) ?_
    rotate_left
    · (intro w hSw; (try dsimp only at hSw); go_simp; try with_reducible rfl)
    try simp only [Act.put, List.setIfInBounds_toArray, List.set_cons_zero, List.set_cons_succ]
    refine take_w 17 (some 148) (v := ?_) (by kernel_rfl) (by kernel_rfl) (by kernel_rfl) (by kernel_rfl) (by kernel_rfl) (fun _ _ _ h => h) (by rfl) ?_ (by assumption) ?_
    rotate_left
    · (intro w hSw; (try dsimp only at hSw); go_simp; try with_reducible rfl)
    try simp only [Act.put, List.setIfInBounds_toArray, List.set_cons_zero, List.set_cons_succ]
    refine take_w 18 (some 149) (v := ?_) (by kernel_rfl) (by kernel_rfl) (by kernel_rfl) (by kernel_rfl) (by kernel_rfl) (fun _ _ _ h => h) (by rfl) ?_ (by assumption) ?_
    rotate_left
    · (intro w hSw; (try dsimp only at hSw); go_simp; try with_reducible rfl)
    try simp only [Act.put, List.setIfInBounds_toArray, List.set_cons_zero, List.set_cons_succ]
    refine take_w 19 (some 150) (v := ?_) (by kernel_rfl) (by kernel_rfl) (by kernel_rfl) (by kernel_rfl) (by kernel_rfl) (fun _ _ _ h => h) (by rfl) ?_ (by assumption) ?_
    rotate_left
    · (intro w hSw; (try dsimp only at hSw); go_simp; try with_reducible rfl)
    try simp only [Act.put, List.setIfInBounds_toArray, List.set_cons_zero, List.set_cons_succ]
    refine take_w 20 (some 151) (v := ?_) (by kernel_rfl) (by kernel_rfl) (by kernel_rfl) (by kernel_rfl) (by kernel_rfl) (fun _ _ _ h => h) (by rfl) ?_ (by assumption) ?_
    rotate_left
    · (intro w hSw; (try dsimp only at hSw); go_simp; try with_reducible rfl)
    try simp only [Act.put, List.setIfInBounds_toArray, List.set_cons_zero, List.set_cons_succ]
    refine take_w 21 (some 152) (v := ?_) (by kernel_rfl) (by kernel_rfl) (by kernel_rfl) (by kernel_rfl) (by kernel_rfl) (fun _ _ _ h => h) (by rfl) ?_ (by assumption) ?_
    rotate_left
    · (intro w hSw; (try dsimp only at hSw); go_simp; try with_reducible rfl)
    try simp only [Act.put, List.setIfInBounds_toArray, List.set_cons_zero, List.set_cons_succ]
    refine take_w 22 (some 153) (v := ?_) (by kernel_rfl) (by kernel_rfl) (by kernel_rfl) (by kernel_rfl) (by kernel_rfl) (fun _ _ _ h => h) (by rfl) ?_ (by assumption) ?_
    rotate_left
    · (intro w hSw; (try dsimp only at hSw); go_simp; try with_reducible rfl)
    try simp only [Act.put, List.setIfInBounds_toArray, List.set_cons_zero, List.set_cons_succ]
    refine take_w 23 (some 154) (v := ?_) (by kernel_rfl) (by kernel_rfl) (by kernel_rfl) (by kernel_rfl) (by kernel_rfl) (fun _ _ _ h => h) (by rfl) ?_ (by assumption) ?_
    rotate_left
    · (intro w hSw; (try dsimp only at hSw); go_simp; try with_reducible rfl)
    try simp only [Act.put, List.setIfInBounds_toArray, List.set_cons_zero, List.set_cons_succ]
    refine take_w 24 (some 155) (v := ?_) (by kernel_rfl) (by kernel_rfl) (by kernel_rfl) (by kernel_rfl) (by kernel_rfl) (fun _ _ _ h => h) (by rfl) ?_ (by assumption) ?_
    rotate_left
    · (intro w hSw; (try dsimp only at hSw); go_simp; try with_reducible rfl)
    try simp only [Act.put, List.setIfInBounds_toArray, List.set_cons_zero, List.set_cons_succ]
    refine take_w 25 (some 156) (v := ?_) (by kernel_rfl) (by kernel_rfl) (by kernel_rfl) (by kernel_rfl) (by kernel_rfl) (fun _ _ _ h => h) (by rfl) ?_ (by assumption) ?_
    rotate_left
    · (intro w hSw; (try dsimp only at hSw); go_simp; try with_reducible rfl)
    try simp only [Act.put, List.setIfInBounds_toArray, List.set_cons_zero, List.set_cons_succ]
    refine take_w 26 (some 157) (v := ?_) (by kernel_rfl) (by kernel_rfl) (by kernel_rfl) (by kernel_rfl) (by kernel_rfl) (fun _ _ _ h => h) (by rfl) ?_ (by assumption) ?_
    rotate_left
    · (intro w hSw; (try dsimp only at hSw); go_simp; try with_reducible rfl)
    try simp only [Act.put, List.setIfInBounds_toArray, List.set_cons_zero, List.set_cons_succ]
    refine take_w 27 (some 158) (v := ?_) (by kernel_rfl) (by kernel_rfl) (by kernel_rfl) (by kernel_rfl) (by kernel_rfl) (fun _ _ _ h => h) (by rfl) ?_ (by assumption) ?_
    rotate_left
    · (intro w hSw; (try dsimp only at hSw); go_simp; try with_reducible rfl)
    try simp only [Act.put, List.setIfInBounds_toArray, List.set_cons_zero, List.set_cons_succ]
    refine take_w 28 (some 159) (v := ?_) (by kernel_rfl) (by kernel_rfl) (by kernel_rfl) (by kernel_rfl) (by kernel_rfl) (fun _ _ _ h => h) (by rfl) ?_ (by assumption) ?_
    rotate_left
    · (intro w hSw; (try dsimp only at hSw); go_simp; try with_reducible rfl)
    try simp only [Act.put, List.setIfInBounds_toArray, List.set_cons_zero, List.set_cons_succ]
    refine take_w 29 (some 160) (v := ?_) (by kernel_rfl) (by kernel_rfl) (by kernel_rfl) (by kernel_rfl) (by kernel_rfl) (fun _ _ _ h => h) (by rfl) ?_ (by assumption) ?_
    rotate_left
    · (intro w hSw; (try dsimp only at hSw); go_simp; try with_reducible rfl)
    try simp only [Act.put, List.setIfInBounds_toArray, List.set_cons_zero, List.set_cons_succ]
    refine take_w 30 (some 161) (v := ?_) (by kernel_rfl) (by kernel_rfl) (by kernel_rfl) (by kernel_rfl) (by kernel_rfl) (fun _ _ _ h => h) (by rfl) ?_ (by assumption) ?_
    rotate_left
    · (intro w hSw; (try dsimp only at hSw); go_simp; try with_reducible rfl)
    try simp only [Act.put, List.setIfInBounds_toArray, List.set_cons_zero, List.set_cons_succ]
    refine take_w 31 (some 162) (v := ?_) (by kernel_rfl) (by kernel_rfl) (by kernel_rfl) (by kernel_rfl) (by kernel_rfl) (fun _ _ _ h => h) (by rfl) ?_ (by assumption) ?_
    rotate_left
    · (intro w hSw; (try dsimp only at hSw); go_simp; try with_reducible rfl)
    try simp only [Act.put, List.setIfInBounds_toArray, List.set_cons_zero, List.set_cons_succ]
    refine take_w 32 (some 163) (v := ?_) (by kernel_rfl) (by kernel_rfl) (by kernel_rfl) (by kernel_rfl) (by kernel_rfl) (fun _ _ _ h => h) (by rfl) ?_ (by assumption) ?_
    rotate_left
    · (intro w hSw; (try dsimp only at hSw); go_simp; try with_reducible rfl)
    try simp only [Act.put, List.setIfInBounds_toArray, List.set_cons_zero, List.set_cons_succ]
    refine take_w 33 (some 164) (v := ?_) (by kernel_rfl) (by kernel_rfl) (by kernel_rfl) (by kernel_rfl) (by kernel_rfl) (fun _ _ _ h => h) (by rfl) ?_ (by assumption) ?_
    rotate_left
    · (intro w hSw; (try dsimp only at hSw); go_simp; try with_reducible rfl)
    try simp only [Act.put, List.setIfInBounds_toArray, List.set_cons_zero, List.set_cons_succ]
    refine ready_one 34 (by kernel_rfl) (by kernel_rfl) (by rfl) (fun Kc hKc => ?_)
    have HTx : Hid (VV.drew.there (w.heap.size + 1) 0 (#[.string (str idv), .string (str nmv), .int .u8 c0, .int .i64 c1, .int .i64 c2, .int .i64 c3, .slice da dm dc, .int .i64 m0, .int .i64 m1, .int .u8 m2, .int .i64 m3, .int .i64 m4, .int .u8 kV4, .int .i64 nV4, .string sV4, .slice aV4 mV4 cV4] : Array Value).size) := Lib.hid ((S6.out.xb.ext (Ext.refl _).drew).there (by simp [ndZ]))
    have HG5 : Hid (VV.grownBy (VV.drew.setCells (w.heap.size + 1) 0 [.string (str idv), .string (str nmv), .int .u8 c0, .int .i64 c1, .int .i64 c2, .int .i64 c3, .slice da dm dc, .int .i64 m0, .int .i64 m1, .int .u8 m2, .int .i64 m3, .int .i64 m4, .int .u8 kV4, .int .i64 nV4, .string sV4, .slice aV4 mV4 cV4]) (some (w.heap.size + 1))) := Lib.hid (grown_trans (grown_ext (Ext.refl _).drew _) (setCells_grown _ _ _ _))
    refine wp_store_mid 59 (.tmp 4) (.tmp 164) (by kernel_rfl) (w.heap.size + 1) 0 #[.string (str idv), .string (str nmv), .int .u8 c0, .int .i64 c1, .int .i64 c2, .int .i64 c3, .slice da dm dc, .int .i64 m0, .int .i64 m1, .int .u8 m2, .int .i64 m3, .int .i64 m4, .int .u8 kV4, .int .i64 nV4, .string sV4, .slice aV4 mV4 cV4] (by kernel_rfl) (by kernel_rfl) HTx.out info_ndL (by simp [Value.oneCell']) ?_
    refine hKc.out _ _ ?_ (fun hHeld => ?_)
    · (try dsimp only)
      (first | exact HS.out _ HG5.out | exact HS.out _ (grown_ext (Ext.refl _).drew _))
    clear hKc Kc
    try simp only [Act.put, List.setIfInBounds_toArray, List.set_cons_zero, List.set_cons_succ]
    try simp only [List.toList_toArray]
    have HXB : Hid (BoxL (VV.drew.setCells (w.heap.size + 1) 0 [.string (str idv), .string (str nmv), .int .u8 c0, .int .i64 c1, .int .i64 c2, .int .i64 c3, .slice da dm dc, .int .i64 m0, .int .i64 m1, .int .u8 m2, .int .i64 m3, .int .i64 m4, .int .u8 kV4, .int .i64 nV4, .string sV4, .slice aV4 mV4 cV4]) (w.heap.size + 1) [.string (str idv), .string (str nmv), .int .u8 c0, .int .i64 c1, .int .i64 c2, .int .i64 c3, .slice da dm dc, .int .i64 m0, .int .i64 m1, .int .u8 m2, .int .i64 m3, .int .i64 m4, .int .u8 kV4, .int .i64 nV4, .string sV4, .slice aV4 mV4 cV4]) := Lib.hid ((S6.out.xb.ext (Ext.refl _).drew).setAll rfl)
    have HPB : Hid (BoxL (VV.drew.setCells (w.heap.size + 1) 0 [.string (str idv), .string (str nmv), .int .u8 c0, .int .i64 c1, .int .i64 c2, .int .i64 c3, .slice da dm dc, .int .i64 m0, .int .i64 m1, .int .u8 m2, .int .i64 m3, .int .i64 m4, .int .u8 kV4, .int .i64 nV4, .string sV4, .slice aV4 mV4 cV4]) w.heap.size ndZ) := Lib.hid ((S6.out.pb.ext (Ext.refl _).drew).kept (setCells_grown _ _ _ _) (fun e => by injection e with e; omega))
    clear HTx
    generalize VV.drew.setCells (w.heap.size + 1) 0 [.string (str idv), .string (str nmv), .int .u8 c0, .int .i64 c1, .int .i64 c2, .int .i64 c3, .slice da dm dc, .int .i64 m0, .int .i64 m1, .int .u8 m2, .int .i64 m3, .int .i64 m4, .int .u8 kV4, .int .i64 nV4, .string sV4, .slice aV4 mV4 cV4] = yX at *
    refine wpAnyH_done (by kernel_rfl) ?_ _
    have hn6 : ∃ nd, rnd ys = some (nd, ys.drop A6) ∧ [.string (str idv), .string (str nmv), .int .u8 c0, .int .i64 c1, .int .i64 c2, .int .i64 c3, .slice da dm dc, .int .i64 m0, .int .i64 m1, .int .u8 m2, .int .i64 m3, .int .i64 m4, .int .u8 kV4, .int .i64 nV4, .string sV4, .slice aV4 mV4 cV4] = ndCells nd (.slice da dm dc) (.int .u8 kV4) (.int .i64 nV4) (.string sV4) (.slice aV4 mV4 cV4) ∧ nd.after = af ∧ nd.val = tv := by
      refine ⟨mkNd idv nmv [c0, c1, c2, c3, (K : Int)] af [m0, m1, m2, m3, m4] m4 tv, ?_, ?_, rfl, rfl⟩
      · unfold rnd
        rw [HY1.out, Option.bind_some]
        simp only
        rw [HY2.out, Option.bind_some]
        simp only
        rw [HY3.out, Option.bind_some]
        simp only [List.getD_cons_zero, List.getD_cons_succ]
        rw [if_neg (by omega), Int.toNat_natCast, HY4.out, Option.bind_some]
        simp only
        rw [HY5.out, Option.bind_some]
        simp only [List.getD_cons_zero, List.getD_cons_succ]
        rw [if_neg (by omega), HT6.out, Option.bind_some]
      · unfold ndCells mkNd
        simp only [List.getD_cons_zero, List.getD_cons_succ]
        rw [show ((UInt8.ofNat c0.toNat).toNat : Int) = c0 by rw [UInt8.toNat_ofNat']; omega, show ((UInt8.ofNat m2.toNat).toNat : Int) = m2 by rw [UInt8.toNat_ofNat']; omega]
    obtain ⟨nd, hn6, hcl6, rfl, rfl⟩ := hn6
    have HN6 := Lib.hid hn6
    have HC6 := Lib.hid hcl6
    have hwx := HG5.out.size
    obtain ⟨CX, hCX⟩ : ∃ CX : List Value, CX = [.string (str idv), .string (str nmv), .int .u8 c0, .int .i64 c1, .int .i64 c2, .int .i64 c3, .slice da dm dc, .int .i64 m0, .int .i64 m1, .int .u8 m2, .int .i64 m3, .int .i64 m4, .int .u8 kV4, .int .i64 nV4, .string sV4, .slice aV4 mV4 cV4] := ⟨_, rfl⟩
    have hxb := HXB.out
    rw [← hCX] at hxb
    have hcl : CX.length = 16 := by rw [hCX]; rfl
    have HLd := Lib.hid hxb.range
    have HLi : Hid ((Tryz.prog.info? 59).map (·.size) = some CX.length) := Lib.hid (by rw [hcl]; exact info_ndL)
    have HTh : Hid (yX.there w.heap.size 0 CX.toArray.size) := Lib.hid (HPB.out.there (by rw [List.size_toArray, hcl]; decide))
    have HLs : Hid ((Tryz.prog.info? 59).map (·.size) = some CX.toArray.size) := Lib.hid (by rw [List.size_toArray, hcl]; exact info_ndL)
    have HC1 : Hid (CX.toArray.all (·.oneCell') = true) := Lib.hid (by rw [hCX]; simp [Value.oneCell'])
    have HCX := Lib.hid hCX
    have HCX16 := Lib.hid hcl
    have HBF : Hid (BoxL (yX.setCells w.heap.size 0 CX) w.heap.size CX) := Lib.hid (HPB.out.setAll (by rw [hcl]; rfl))
    have HGF : Hid (yX.grownBy (yX.setCells w.heap.size 0 CX) (some w.heap.size)) := Lib.hid (setCells_grown _ _ _ _)
    clear hxb hCX hcl hn6 hcl6 HXB HPB
    go_wp2_with (first | (refine wpList_load_mid rfl _ _ rfl _ _ rfl _ _ HLd.out Tryz.underlying59 rfl HLi.out ?_) | (refine wpList_store_mid rfl _ _ _ rfl _ _ _ rfl rfl HTh.out HLs.out HC1.out ?_))
    generalize yX.setCells w.heap.size 0 CX = yF at *
    have HP : Hid (RNode xs A0 w (.returned (.tuple #[.agg #[.string (str idv), .string (str nmv), .int .u8 c0, .int .i64 c1, .int .i64 c2, .int .i64 c3, .slice da dm dc, .int .i64 m0, .int .i64 m1, .int .u8 m2, .int .i64 m3, .int .i64 m4, .int .u8 kV4, .int .i64 nV4, .string sV4, .slice aV4 mV4 cV4], .int .i64 (A6 : Int)])) yF) := Lib.hid
      ⟨_, _, _, _, _, _, _, _, _, _, _, _, _, _, _, _, _, _, _, _, A6, rfl, (S6.out.e.grown HG5.out (fun k hk => by injection hk with hk; omega)).grown HGF.out (fun k hk => by injection hk with hk; omega), .inr ⟨nd, A0 + A6, by rw [← HY.out, HN6.out, HY.out, List.drop_drop], rfl, by have := HYl.out; have := HA0.out; omega, by omega, HC6.out,
        (((HO4.out.ext E46.out).kept HG5.out (fun k hk => by injection hk with hk; omega)).kept HGF.out (fun k hk => by injection hk with hk; omega)).mono (by omega),
        ((HOT.out.grown HG5.out (fun k hk => by injection hk with hk; omega)).grown HGF.out (fun k hk => by injection hk with hk; omega)).mono (by omega), (rnd_inv HN6.out).2⟩⟩
    clear HLd HLi HTh HLs HC1 HGF HN6 HC6
    refine bodyPost_ret (rread_res Tryz.results50 _ _ w.heap.size _ CX HCX16.out rfl rfl HBF.out.range) rfl ?_
    rw [HCX.out]
    exact HP.out

end Go.Proofs.YtdienbcjfljjnaaGreatDoor
