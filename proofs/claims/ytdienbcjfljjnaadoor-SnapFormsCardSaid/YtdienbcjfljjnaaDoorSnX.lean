/- SnapForms answers true at every input. -/
import Derived.Test.YtdienbcjfljjnaaDoorSnW
import Derived.Test.YtdienbcjfljjnaaDoorSnQ
import Derived.Test.YtdienbcjfljjnaaDoorSnM
import Derived.Test.YtdienbcjfljjnaaDoorSnB
import Derived.Test.YtdienbcjfljjnaaDoorSnL
import Derived.Test.YtdienbcjfljjnaaDoorTake
import Derived.Great.BuildSlice
open Go.RowKit Go.Shelf
namespace Fm
open Go
/-- A whole struct is loaded in a region that draws its order. -/
theorem take_load {P : Program} {ops : Array Oper} {Q : Exit → Act → World → Prop} {md : Region.Mode} {S : World → Prop} (i : Nat) (d : Option Tmp) {fuel : Nat} {listed : Array Bool} {a : Act} {w : World}
    (hi : ops[i]? = some (ops.getD i default)) (hd : (ops.getD i default).dst = d) (hs : Region.noSelect ops = true) (hf : Region.free md ops listed i = true) (hr : (Region.ready md ops listed).contains i = true) {cs : List Value}
    (hQ : ∀ c a w, Q (.panic c) (a.put d (.agg cs.toArray)) w → Q (.panic c) a w) (hw : Region.wanted (ops.getD i default) (yielded ops a.tmps) = true) (ty : TypeId) (x : Operand) (ho : (ops.getD i default).op = .load ty x)
    (b o : Nat) (hx : a.eval x = .pointer (some ⟨b, o, none⟩)) (cs' : List Value := cs) (td : TypeDesc) (hc : ∀ w, S w → w.rangeAt b o cs) (hu : P.underlying ty = some td) (hrow : td.isRow = true) (hin : (P.info? ty).map (·.size) = some cs.length) (hS : S w)
    (h : wpAnyH P md ops Q S fuel (listed.setIfInBounds i true) (a.put d (.agg cs.toArray)) w) : wpAnyH P md ops Q S (fuel + 1) listed a w := by
  subst hd; exact wpAnyH_take hi hs hf hr hQ (yieldsIf_load_mid hw ty x ho b o hx cs td hc hu hrow hin) hS h
end Fm
namespace Go.Proofs.YtdienbcjfljjnaaDoor
open Go Go.Proofs Fm

set_option maxRecDepth 100000 in
set_option maxHeartbeats 16000000 in
theorem snapForms_any (w : World) (s : Sn) (v : Value) (hv : SnV w s v) (n : Nd) (u : Value) (hu : NdV w n u) (A wh : UInt8) :
    Calls Tryd.prog 6 #[v, u, .int .u8 (A.toNat : Int), .int .u8 (wh.toNat : Int)] w fun e w' => e = .returned (.bool true) ∧ Ext w w' := by
  have HV := Lib.hid hv
  obtain ⟨a, m, c, rfl, hr, hwf⟩ := hv
  obtain rfl : m = s.nodes.length := by
    obtain ⟨_, _, e, _⟩ := hr.slice
    injection e
  have HR := Lib.hid hr
  have hcap : s.nodes.length ≤ c := by obtain ⟨_, _, e, q, _⟩ := hr.slice; injection e with _ _ e; omega
  have HW := Lib.hid hwf
  clear hwf hr
  obtain ⟨C, rfl, hC⟩ := ShNd.of hu
  have HC := Lib.hid hC
  have HC16 := Lib.hid hC.cells
  obtain ⟨i0, hi0, hi1, hi2, -⟩ := info_parts infonodeW
  have HI0 := Lib.hid hi0
  have HI1 := Lib.hid hi1
  have HI2 := Lib.hid hi2
  have HIC : Hid ((Tryd.prog.info? 47).map (·.size) = some C.length) := Lib.hid (by rw [HI0.out, HC16.out, ← HI2.out]; rfl)
  clear hC hu hi0 hi1 hi2
  have hAl := A.toNat_lt
  generalize A.toNat = At at *
  generalize wh.toNat = Wh at *
  have h1 := (BoxL.new w [.int .i64 s.cq, .int .i64 s.cd, .int .i64 s.cw, .int .i64 s.cr, .int .i64 s.cf, .int .i64 s.flows, .slice a s.nodes.length c, .int .i64 s.tok] 26).ext ((Ext.refl _).alloc (.cells C.toArray 47))
  have h2 := BoxL.new (w.alloc (.cells #[.int .i64 s.cq, .int .i64 s.cd, .int .i64 s.cw, .int .i64 s.cr, .int .i64 s.cf, .int .i64 s.flows, .slice a s.nodes.length c, .int .i64 s.tok] 26)) C 47
  have hz : (w.alloc (.cells #[.int .i64 s.cq, .int .i64 s.cd, .int .i64 s.cw, .int .i64 s.cr, .int .i64 s.cf, .int .i64 s.flows, .slice a s.nodes.length c, .int .i64 s.tok] 26)).heap.size = w.heap.size + 1 := by simp
  rw [hz] at h2
  have hE := ((Ext.refl w).alloc (.cells #[.int .i64 s.cq, .int .i64 s.cd, .int .i64 s.cw, .int .i64 s.cr, .int .i64 s.cf, .int .i64 s.flows, .slice a s.nodes.length c, .int .i64 s.tok] 26)).alloc (.cells C.toArray 47)
  clear hz
  go_enter Tryd.func6, Tryd.ntmps6
  go_upto_region 1 with (fail)
  have H1 := Lib.hid h1
  have H2 := Lib.hid h2
  have HE := Lib.hid hE
  clear h1 h2 hE
  generalize (w.alloc _).alloc _ = W1 at *
  have HRg : Hid (W1.rangeAt (w.heap.size + 1) 0 C) := Lib.hid H2.out.range
  have hx1 := (Ext.refl W1).alloc (.cells C.toArray 47)
  have hrow1 := row_one_nd HC.out HE.out
  have hx2 := ((Ext.refl W1).alloc (.cells C.toArray 47)).alloc (.cells #[.int .i64 0, .int .i64 0, .int .i64 0, .int .i64 0, .int .i64 0, .int .i64 0, .slice (some ⟨W1.heap.size, 0, none⟩) 1 1, .int .i64 0] 26)
  have hbx1 := BoxL.new (W1.alloc (.cells C.toArray 47)) [.int .i64 0, .int .i64 0, .int .i64 0, .int .i64 0, .int .i64 0, .int .i64 0, .slice (some ⟨W1.heap.size, 0, none⟩) 1 1, .int .i64 0] 26
  have hz1 : (W1.alloc (.cells C.toArray 47)).heap.size = W1.heap.size + 1 := by simp
  rw [hz1] at hbx1
  have hrow2 := hrow1.ext ((Ext.refl _).alloc (.cells #[.int .i64 0, .int .i64 0, .int .i64 0, .int .i64 0, .int .i64 0, .int .i64 0, .slice (some ⟨W1.heap.size, 0, none⟩) 1 1, .int .i64 0] 26))
  have hw1z : w.heap.size + 1 < W1.heap.size := H2.out.lt
  have HRow := Lib.hid hrow2
  have HBx := Lib.hid hbx1
  have HX2 := Lib.hid hx2
  clear hx1 hrow1 hx2 hbx1 hz1 hrow2
  have hC16 := HC16.out
  go_upto_region 2 with (refine wpList_load_mid rfl _ _ rfl _ _ rfl C _ HRg.out Tryd.underlying47 rfl HIC.out ?_)
  rw [foldl16 hC16]
  clear hC16
  generalize (W1.alloc _).alloc _ = W2 at *
  have H12 := Lib.hid (H1.out.ext HX2.out)
  have H22 := Lib.hid (H2.out.ext HX2.out)
  have HE2 := Lib.hid (HE.out.trans HX2.out)
  obtain ⟨B, hB⟩ : ∃ B, B = W1.heap.size := ⟨_, rfl⟩
  rw [← hB] at HRow HBx ⊢
  have hBlo : w.heap.size + 1 < B := by omega
  clear HX2 H1 H2 HE HRg hB hw1z
  have ⟨p0, p1, p2, p3, p4, p5, p6, p7⟩ := H12.out.n8
  go_wp2_with fail
  refine (few11_any s W2 _ (HV.out.ext HE2.out)).mono ?_
  rintro e w3 ⟨rfl, hE3⟩
  have HE3 := Lib.hid (HE2.out.trans hE3)
  have H13 := Lib.hid (H12.out.ext hE3)
  have H23 := Lib.hid (H22.out.ext hE3)
  have HBx3 := Lib.hid (HBx.out.ext hE3)
  have HRow3 := Lib.hid (HRow.out.ext hE3)
  clear hE3 H12 H22 HBx HRow HE2 p0 p1 p2 p3 p4 p5 p6 p7
  cases hf : fewSn s with
  | false =>
    clear hf
    go_wp2_with fail
    refine (awake11 _).mono ?_
    rintro e wz ⟨rfl, hEz⟩
    have HEz := Lib.hid (HE3.out.trans hEz)
    clear hEz
    go_wp2
    go_ret
    exact ⟨rfl, HEz.out⟩
  | true =>
  have HL60 : Hid (s.nodes.length ≤ 60 ∧ ∀ n, n ∈ s.nodes → n.after.length ≤ 1000 ∧ partsT n.val ≤ 1000000) := Lib.hid (by
    unfold fewSn at hf
    simp only [Bool.and_eq_true, decide_eq_true_eq] at hf
    refine ⟨hf.1, fun n hn => ?_⟩
    have hl := List.all_eq_true.1 hf.2 n hn
    unfold lightNd lightT at hl
    simp only [Bool.and_eq_true, decide_eq_true_eq] at hl
    have := fewT_light 20 n.val hl.2.2.2
    omega)
  clear hf
  have ⟨q0, q1, q2, q3, q4, q5, q6, q7⟩ := HBx3.out.n8
  go_wp2_with fail
  refine (few11_any (snOf [n]) w3 _ (snOf_v HRow3.out)).mono ?_
  rintro e w4 ⟨rfl, hE4⟩
  have HE4 := Lib.hid (HE3.out.trans hE4)
  have H14 := Lib.hid (H13.out.ext hE4)
  have H24 := Lib.hid (H23.out.ext hE4)
  have HBx4 := Lib.hid (HBx3.out.ext hE4)
  have HRow4 := Lib.hid (HRow3.out.ext hE4)
  clear hE4 H13 H23 HBx3 HRow3 HE3 q0 q1 q2 q3 q4 q5 q6 q7
  cases hf : fewSn (snOf [n]) with
  | false =>
    clear hf
    go_wp2_with fail
    refine (awake11 _).mono ?_
    rintro e wz ⟨rfl, hEz⟩
    have HEz := Lib.hid (HE4.out.trans hEz)
    clear hEz
    go_wp2
    go_ret
    exact ⟨rfl, HEz.out⟩
  | true =>
  clear hf
  have ⟨p0, p1, p2, p3, p4, p5, p6, p7⟩ := H14.out.n8
  go_upto_region 6 with (fail)
  have hxb := (Ext.refl w4).alloc (.cells #[.int .i64 s.cq, .int .i64 s.cd, .int .i64 s.cw, .int .i64 s.cr, .int .i64 s.cf, .int .i64 s.flows, .slice none 0 0, .int .i64 s.tok] 26)
  have hbb := BoxL.new w4 [.int .i64 s.cq, .int .i64 s.cd, .int .i64 s.cw, .int .i64 s.cr, .int .i64 s.cf, .int .i64 s.flows, .slice none 0 0, .int .i64 s.tok] 26
  have HX5 := Lib.hid hxb
  have HBb := Lib.hid hbb
  clear hxb hbb p0 p1 p2 p3 p4 p5 p6 p7
  generalize w4.alloc _ = W5 at *
  have ⟨q0, q1, q2, q3, q4, q5, q6, q7⟩ := HBb.out.n8
  go_wp2_with fail
  refine (sright_any { s with nodes := [] } W5 _ ⟨none, 0, 0, rfl, Elem.Row.void _ _ _, HW.out⟩).mono ?_
  rintro e w6 ⟨rfl, hE6⟩
  have HE6 := Lib.hid (HE4.out.trans (HX5.out.trans hE6))
  have H16 := Lib.hid (H14.out.ext (HX5.out.trans hE6))
  have H26 := Lib.hid (H24.out.ext (HX5.out.trans hE6))
  have HBx6 := Lib.hid (HBx4.out.ext (HX5.out.trans hE6))
  have HRow6 := Lib.hid (HRow4.out.ext (HX5.out.trans hE6))
  clear hE6 H14 H24 HBx4 HRow4 HE4 HX5 HBb q0 q1 q2 q3 q4 q5 q6 q7
  obtain ⟨L, hL⟩ : ∃ L, L = snB { s with nodes := [] } := ⟨_, rfl⟩
  have HL := Lib.hid hL
  rw [← hL]
  clear hL
  have ⟨p0, p1, p2, p3, p4, p5, p6, p7⟩ := H16.out.n8
  go_wp2_with fail
  clear p0 p1 p2 p3 p4 p5 p6 p7
  have hl60 := HL60.out.1
  go_loopw [11, 36] (fun ev i wr => ∃ k : Nat, k ≤ s.nodes.length ∧ i = .int .i64 k ∧ ∃ eb : Bool, ev = .bool eb ∧ Hid (eb = (L && (s.nodes.take k).all ndB)) ∧ Hid (Ext w6 wr)) (fun _ i _ => s.nodes.length - (intOf i).toNat)
  case atStart => exact ⟨0, by omega, rfl, _, rfl, Lib.hid (by simp), Lib.hid (Ext.refl _)⟩
  case round =>
  obtain ⟨k, hk, rfl, eb, rfl, HB, HEr⟩ := hrel
  have p6 : wr.cell? ⟨w.heap.size, 6, none⟩ = some (.slice a s.nodes.length c) := (H16.out.ext HEr.out).cell 6 _ rfl
  by_cases hlk : k < s.nodes.length
  · have hk0 : (0 : Int) ≤ (k : Int) := by omega
    have hk1 : (k : Int) < (s.nodes.length : Int) := by omega
    cases eb with
    | false =>
      have HN : Hid (false = (L && (s.nodes.take (k + 1)).all ndB)) := Lib.hid (by
        rw [List.take_add_one, List.all_append, ← Bool.and_assoc, ← HB.out]; rfl)
      go_wp2
      go_roundw
      case rel => exact ⟨k + 1, by omega, by go_num, false, rfl, HN, HEr⟩
      case measure => simp [intOf]; omega
    | true =>
      have hsk := fun w' => slice_nd_one a s.nodes.length c k (by omega) w'
      have HRk := Lib.hid (row_nd_one (HR.out.ext (HE6.out.trans HEr.out)) hlk)
      have HN : Hid (ndB s.nodes[k] = (L && (s.nodes.take (k + 1)).all ndB)) := Lib.hid (by
        rw [List.take_add_one, List.getElem?_eq_getElem hlk, List.all_append, ← Bool.and_assoc, ← HB.out]
        simp)
      generalize s.nodes[k] = ik at *
      generalize (if c = k then a else a.map (·.add (k * 16))) = adk at *
      generalize c - k = ck at *
      go_wp2_with fail
      refine (sright_any (snOf [ik]) wr _ (snOf_v HRk.out)).mono ?_
      rw [snB_one]
      rintro e w3 ⟨rfl, hE3⟩
      have HE4 := Lib.hid (HEr.out.trans hE3)
      clear hE3 hsk HRk p6
      generalize ndB ik = lb at *
      go_wp2
      go_roundw
      case rel => exact ⟨k + 1, by omega, by go_num, lb, rfl, HN, HE4⟩
      case measure => simp [intOf]; omega
  have HEB : Hid (eb = snB s) := Lib.hid (by
    have hks : k = s.nodes.length := by omega
    rw [HB.out, HL.out, hks, List.take_length, snB_split s HL60.out.1])
  clear HB
  have HE7 := Lib.hid (HE6.out.trans HEr.out)
  have H17 := Lib.hid (H16.out.ext HEr.out)
  have H27 := Lib.hid (H26.out.ext HEr.out)
  have HBx7 := Lib.hid (HBx6.out.ext HEr.out)
  have HRow7 := Lib.hid (HRow6.out.ext HEr.out)
  have hlk' : ¬ ((k : Int) < (s.nodes.length : Int)) := by omega
  clear HEr HE6 H16 H26 HBx6 HRow6 p6
  have ⟨p0, p1, p2, p3, p4, p5, p6, p7⟩ := H17.out.n8
  go_wp2_with fail
  clear hlk hlk'
  refine (sright_any s wr _ (HV.out.ext HE7.out)).mono ?_
  rw [← HEB.out]
  rintro e w8 ⟨rfl, hE8⟩
  have HE8 := Lib.hid (HE7.out.trans hE8)
  have H18 := Lib.hid (H17.out.ext hE8)
  have H28 := Lib.hid (H27.out.ext hE8)
  have HBx8 := Lib.hid (HBx7.out.ext hE8)
  have HRow8 := Lib.hid (HRow7.out.ext hE8)
  have HNq : (eb == eb) = true := by simp
  clear hE8 HE7 H17 H27 HBx7 HRow7 p0 p1 p2 p3 p4 p5 p6 p7
  have ⟨p0, p1, p2, p3, p4, p5, p6, p7⟩ := H18.out.n8
  go_wp2_with fail
  refine (scopy_any s w8 _ (HV.out.ext HE8.out) (by have := HL60.out.1; omega) HL60.out.2).mono ?_
  rintro e w9 ⟨ac, cc, rfl, -, hE9⟩
  have HE9 := Lib.hid (HE8.out.trans hE9)
  have H19 := Lib.hid (H18.out.ext hE9)
  have H29 := Lib.hid (H28.out.ext hE9)
  have HBx9 := Lib.hid (HBx8.out.ext hE9)
  have HRow9 := Lib.hid (HRow8.out.ext hE9)
  clear hE9 HE8 H18 H28 HBx8 HRow8 p0 p1 p2 p3 p4 p5 p6 p7
  obtain ⟨G, hG⟩ : ∃ G : Nat, G = At % (s.nodes.length + 1) := ⟨_, rfl⟩
  have hGl : G ≤ s.nodes.length := by have := Nat.mod_lt At (show 0 < s.nodes.length + 1 by omega); omega
  have hcv : IntKind.i64.wrap (At : Int) = (At : Int) := IntWalk.i64_in _ (by omega)
  have hla : IntKind.i64.wrap ((s.nodes.length : Int) + 1) = (s.nodes.length : Int) + 1 := IntWalk.i64_in _ (by omega)
  have hgg : (At : Int) % ((s.nodes.length : Int) + 1) = (G : Int) := by rw [hG]; simp
  have htm : (At : Int).tmod ((s.nodes.length : Int) + 1) = (G : Int) := by rw [Int.tmod_eq_emod_of_nonneg (by omega), hgg]
  have hrm : IntKind.i64.wrap ((At : Int).tmod ((s.nodes.length : Int) + 1)) = (G : Int) := by rw [htm]; exact IntWalk.i64_in _ (by omega)
  have hnz : ¬ ((s.nodes.length : Int) + 1 = 0) := by omega
  clear hG
  have hxm := (Ext.refl w9).alloc (.cells #[.int .i64 s.cq, .int .i64 s.cd, .int .i64 s.cw, .int .i64 s.cr, .int .i64 s.cf, .int .i64 s.flows, .slice ac s.nodes.length cc, .int .i64 s.tok] 26)
  have hbm := BoxL.new w9 [.int .i64 s.cq, .int .i64 s.cd, .int .i64 s.cw, .int .i64 s.cr, .int .i64 s.cf, .int .i64 s.flows, .slice ac s.nodes.length cc, .int .i64 s.tok] 26
  have HXm := Lib.hid hxm
  have HBm := Lib.hid hbm
  have p6 : (w9.alloc (.cells #[.int .i64 s.cq, .int .i64 s.cd, .int .i64 s.cw, .int .i64 s.cr, .int .i64 s.cf, .int .i64 s.flows, .slice ac s.nodes.length cc, .int .i64 s.tok] 26)).cell? ⟨w.heap.size, 6, none⟩ = some (.slice a s.nodes.length c) := (H19.out.ext hxm).cell 6 _ rfl
  clear hxm hbm
  go_upto_region 16 with (fail)
  generalize w9.alloc _ = W9 at *
  clear p6 hcv hla hrm htm hnz hgg
  have hC16 := HC16.out
  have hm9 : w9.heap.size < W9.heap.size := HBm.out.lt
  have HT9 : Hid (∀ W2, Ext w9 W2 → W2.cell? ⟨w.heap.size, 6, none⟩ = some (.slice a s.nodes.length c) ∧ W2.rangeAt (w.heap.size + 1) 0 C) := Lib.hid (fun W2 h => ⟨(H19.out.ext h).cell 6 _ rfl, (H29.out.ext h).range⟩)
  have HS : Hid (∀ W2, Ext W9 W2 → W2.cell? ⟨w.heap.size, 6, none⟩ = some (.slice a s.nodes.length c) ∧ W2.rangeAt (w.heap.size + 1) 0 C) := Lib.hid (fun W2 h => HT9.out W2 (HXm.out.trans h))
  have hup := fun w' => slice_nd_upto a s.nodes.length c G (by omega) w'
  have hfr := fun w' => slice_nd_from a s.nodes.length c G hGl w'
  have HDk := Lib.hid (HR.out.drop (k := G) hGl)
  have HTk := Lib.hid (HR.out.take (k := G) hGl)
  rw [show ndE.sz = 16 from rfl] at HDk
  generalize (if c = G then a else a.map (·.add (G * 16))) = ad at *
  generalize hnd : s.nodes.length - G = nd at *
  have hndl : nd ≤ 60 := by omega
  clear hnd
  generalize c - G = cd at *
  have HC0 : Hid (Ext W9 W9.drew) := Lib.hid (Ext.refl W9).drew
  have HBm0 := Lib.hid (HBm.out.ext (Ext.refl W9).drew)
  go_cut [] (fun w' => ∃ (am : Option Addr) (cm : Nat), Hid (Ext w9 w' ∧ BoxL w' w9.heap.size [.int .i64 s.cq, .int .i64 s.cd, .int .i64 s.cw, .int .i64 s.cr, .int .i64 s.cf, .int .i64 s.flows, .slice am (s.nodes.length + 1) cm, .int .i64 s.tok] ∧ ndE.Row w' (s.nodes.take G ++ [n] ++ s.nodes.drop G) (.slice am (s.nodes.length + 1) cm)))
  case first =>
    refine wp_region_held_drew (S := (fun w' => w'.cell? ⟨w.heap.size, 6, none⟩ = some (.slice a s.nodes.length c) ∧ w'.rangeAt (w.heap.size + 1) 0 C)) (by kernel_rfl) ?_ (fun hHeld => ?_)
    · (try dsimp only)
      exact HS.out _ HC0.out
    refine take_w 1 (some 65) (v := ?_) (by kernel_rfl) (by kernel_rfl) (by kernel_rfl) (by kernel_rfl) (by kernel_rfl) (fun _ _ _ h => h) (by rfl) ?_ (by assumption) ?_
    rotate_left
    · (intro w hSw; (try dsimp only at hSw); go_simp; try with_reducible rfl)
    try simp only [Act.put, List.setIfInBounds_toArray, List.set_cons_zero, List.set_cons_succ]
    refine take_w 2 (some 66) (v := ?_) (by kernel_rfl) (by kernel_rfl) (by kernel_rfl) (by kernel_rfl) (by kernel_rfl) (fun _ _ _ h => h) (by rfl) ?_ (by assumption) ?_
    rotate_left
    · (intro w hSw; (try dsimp only at hSw); go_simp; try with_reducible rfl)
    try simp only [Act.put, List.setIfInBounds_toArray, List.set_cons_zero, List.set_cons_succ]
    refine take_w 3 (some 67) (v := ?_) (by kernel_rfl) (by kernel_rfl) (by kernel_rfl) (by kernel_rfl) (by kernel_rfl) (fun _ _ _ h => h) (by rfl) ?_ (by assumption) ?_
    rotate_left
    · (intro w hSw; (try dsimp only at hSw); go_simp; try with_reducible rfl)
    try simp only [Act.put, List.setIfInBounds_toArray, List.set_cons_zero, List.set_cons_succ]
    refine take_w 4 (some 68) (v := ?_) (by kernel_rfl) (by kernel_rfl) (by kernel_rfl) (by kernel_rfl) (by kernel_rfl) (fun _ _ _ h => h) (by rfl) ?_ (by assumption) ?_
    rotate_left
    · (intro w hSw; (try dsimp only at hSw); go_simp; try with_reducible rfl)
    try simp only [Act.put, List.setIfInBounds_toArray, List.set_cons_zero, List.set_cons_succ]
    refine take_load 6 (some 70) (by kernel_rfl) (by kernel_rfl) (by kernel_rfl) (by kernel_rfl) (by kernel_rfl) (fun _ _ _ h => h) (by rfl) 47 (.tmp 5) (by kernel_rfl) (w.heap.size + 1) 0 (by kernel_rfl) C _ (fun w h => h.2) Tryd.underlying47 rfl HIC.out (by assumption) ?_
    try simp only [Act.put, List.setIfInBounds_toArray, List.set_cons_zero, List.set_cons_succ]
    refine take_w 9 (some 73) (v := ?_) (by kernel_rfl) (by kernel_rfl) (by kernel_rfl) (by kernel_rfl) (by kernel_rfl) (fun _ _ _ h => h) (by rfl) ?_ (by assumption) ?_
    rotate_left
    · (intro w hSw; (try dsimp only at hSw); go_simp; try with_reducible rfl)
    try simp only [Act.put, List.setIfInBounds_toArray, List.set_cons_zero, List.set_cons_succ]
    refine take_w 10 (some 74) (v := ?_) (by kernel_rfl) (by kernel_rfl) (by kernel_rfl) (by kernel_rfl) (by kernel_rfl) (fun _ _ _ h => h) (by rfl) ?_ (by assumption) ?_
    rotate_left
    · (intro w hSw; (try dsimp only at hSw); go_simp; try with_reducible rfl)
    try simp only [Act.put, List.setIfInBounds_toArray, List.set_cons_zero, List.set_cons_succ]
    refine take_w 11 (some 75) (v := ?_) (by kernel_rfl) (by kernel_rfl) (by kernel_rfl) (by kernel_rfl) (by kernel_rfl) (fun _ _ _ h => h) (by rfl) ?_ (by assumption) ?_
    rotate_left
    · (intro w hSw; (try dsimp only at hSw); go_simp; try with_reducible rfl)
    try simp only [Act.put, List.setIfInBounds_toArray, List.set_cons_zero, List.set_cons_succ]
    refine take_w 12 (some 76) (v := ?_) (by kernel_rfl) (by kernel_rfl) (by kernel_rfl) (by kernel_rfl) (by kernel_rfl) (fun _ _ _ h => h) (by rfl) ?_ (by assumption) ?_
    rotate_left
    · (intro w hSw; (try dsimp only at hSw); go_simp; try with_reducible rfl)
    try simp only [Act.put, List.setIfInBounds_toArray, List.set_cons_zero, List.set_cons_succ]
    have hs0 : W9.heap.size ≤ (W9.drew).heap.size := Nat.le_refl _
    generalize W9.drew = D0 at *
    refine ready_two 0 7 (by kernel_rfl) (by kernel_rfl) (by kernel_rfl) (by rfl) (by rfl) (fun Kc hKc => ?_) (fun Kc hKc => ?_)
    · skip
      go_simp
      have e0 := (Ext.refl D0).alloc (.cells #[] 47)
      have HC1 := Lib.hid (HC0.out.trans e0)
      have HBm1 := Lib.hid (HBm0.out.ext e0)
      have hs1 : D0.heap.size < (D0.alloc (.cells #[] 47)).heap.size := by simp
      have HSh1 := Lib.hid (ShN.made (w0 := w) (base := W9.heap.size) (w := D0) (by omega))
      obtain ⟨v0, hv0⟩ : ∃ v0, v0 = Value.slice (some ⟨D0.heap.size, 0, none⟩) 0 0 := ⟨_, rfl⟩
      have HV0 : Hid (v0.ownBlock = some D0.heap.size) := Lib.hid (by rw [hv0]; rfl)
      rw [← hv0] at HSh1 ⊢
      clear hv0
      clear e0
      refine hKc.out _ _ ?_ (fun hHeld => ?_)
      · (try dsimp only)
        exact HS.out _ HC1.out
      clear hKc Kc
      try simp only [Act.put, List.setIfInBounds_toArray, List.set_cons_zero, List.set_cons_succ]
      generalize D0.alloc (.cells #[] 47) = D1 at *
      refine ready_two 5 7 (by kernel_rfl) (by kernel_rfl) (by kernel_rfl) (by rfl) (by rfl) (fun Kc hKc => ?_) (fun Kc hKc => ?_)
      · skip
        refine oper_appN (v := v0) _ _ rfl rfl HSh1.out (by omega) rfl (srcN_row HTk.out (HE9.out.trans (HXm.out.trans HC1.out))) (by simp only [List.length_nil, List.length_take]; omega) (fun v5 D2 h1 h2 => ?_)
        have hlow := HSh1.out.low
        have HC2 := Lib.hid (HC1.out.grown h2 (fun k hk => (hlow k hk).1))
        have HBm2 := Lib.hid (HBm1.out.kept h2 (fun q => by have := (hlow _ q).1; omega))
        have HSh2 := Lib.hid h1
        have hs2 := h2.size
        clear h1 h2 hlow
        rw [List.nil_append] at HSh2
        go_simp
        refine hKc.out _ _ ?_ (fun hHeld => ?_)
        · (try dsimp only)
          exact HS.out _ HC2.out
        clear hKc Kc
        try simp only [Act.put, List.setIfInBounds_toArray, List.set_cons_zero, List.set_cons_succ]
        refine ready_one 7 (by kernel_rfl) (by kernel_rfl) (by rfl) (fun Kc hKc => ?_)
        skip
        go_simp
        rw [foldl16 hC16]
        have e0 := (Ext.refl D2).alloc (.cells C.toArray 47)
        have HC3 := Lib.hid (HC2.out.trans e0)
        have HBm3 := Lib.hid (HBm2.out.ext e0)
        have HSh3 := Lib.hid (HSh2.out.ext e0)
        have hs3 : D2.heap.size < (D2.alloc (.cells C.toArray 47)).heap.size := by simp
        have HBo3 := Lib.hid (BoxL.new D2 C 47)
        clear e0
        refine hKc.out _ _ ?_ (fun hHeld => ?_)
        · (try dsimp only)
          exact HS.out _ HC3.out
        clear hKc Kc
        try simp only [Act.put, List.setIfInBounds_toArray, List.set_cons_zero, List.set_cons_succ]
        generalize D2.alloc (.cells C.toArray 47) = D3 at *
        refine ready_one 8 (by kernel_rfl) (by kernel_rfl) (by rfl) (fun Kc hKc => ?_)
        skip
        refine oper_appN (v := v5) _ _ rfl rfl HSh3.out (by omega) rfl (srcN_box HBo3.out HC.out) (by simp only [List.length_append, List.length_nil, List.length_take, List.length_singleton]; omega) (fun v8 D4 h1 h2 => ?_)
        have hlow := HSh3.out.low
        have HC4 := Lib.hid (HC3.out.grown h2 (fun k hk => (hlow k hk).1))
        have HBm4 := Lib.hid (HBm3.out.kept h2 (fun q => by have := (hlow _ q).1; omega))
        have HSh4 := Lib.hid h1
        have hs4 := h2.size
        clear h1 h2 hlow
        go_simp
        refine hKc.out _ _ ?_ (fun hHeld => ?_)
        · (try dsimp only)
          exact HS.out _ HC4.out
        clear hKc Kc
        try simp only [Act.put, List.setIfInBounds_toArray, List.set_cons_zero, List.set_cons_succ]
        refine ready_one 13 (by kernel_rfl) (by kernel_rfl) (by rfl) (fun Kc hKc => ?_)
        skip
        refine oper_appN (v := v8) _ _ rfl rfl HSh4.out (by omega) rfl (srcN_row HDk.out (HE9.out.trans (HXm.out.trans HC4.out))) (by simp only [List.length_append, List.length_nil, List.length_take, List.length_drop, List.length_singleton]; omega) (fun v13 D5 h1 h2 => ?_)
        have hlow := HSh4.out.low
        have HC5 := Lib.hid (HC4.out.grown h2 (fun k hk => (hlow k hk).1))
        have HBm5 := Lib.hid (HBm4.out.kept h2 (fun q => by have := (hlow _ q).1; omega))
        have HSh5 := Lib.hid h1
        have hs5 := h2.size
        clear h1 h2 hlow
        go_simp
        refine hKc.out _ _ ?_ (fun hHeld => ?_)
        · (try dsimp only)
          exact HS.out _ HC5.out
        clear hKc Kc
        try simp only [Act.put, List.setIfInBounds_toArray, List.set_cons_zero, List.set_cons_succ]
        obtain ⟨am, cm, rfl⟩ : ∃ am cm, v13 = .slice am (s.nodes.length + 1) cm := by
          rcases HSh5.out.slice with ⟨q, -⟩ | ⟨g, cm, q, -⟩
          · have := congrArg List.length q; simp at this
          · refine ⟨_, cm, by rw [q]; congr 1; simp; omega⟩
        refine take_w 14 (some 78) (v := ?_) (by kernel_rfl) (by kernel_rfl) (by kernel_rfl) (by kernel_rfl) (by kernel_rfl) (fun _ _ _ h => h) (by rfl) ?_ (by assumption) ?_
        rotate_left
        · (intro w hSw; (try dsimp only at hSw); go_simp; try with_reducible rfl)
        try simp only [Act.put, List.setIfInBounds_toArray, List.set_cons_zero, List.set_cons_succ]
        have x6 := HBm5.out.cell 6 _ rfl
        have xf := HBm5.out.free 6
        have HBz := Lib.hid (HBm5.out.set 6 (by simp) (.slice am (s.nodes.length + 1) cm))
        have hgz := setOne_grown D5 w9.heap.size 6 (.slice am (s.nodes.length + 1) cm)
        have HEz := Lib.hid ((HXm.out.trans HC5.out).grown hgz (fun k hk => by injection hk with hk; omega))
        have HShz := Lib.hid ((HSh5.out.kept hgz (fun k hk => by injection hk with hk; omega)).row (HE9.out.trans HEz.out))
        clear hgz
        refine ready_one 15 (by kernel_rfl) (by kernel_rfl) (by rfl) (fun Kc hKc => ?_)
        go_simp
        refine hKc.out _ _ ?_ (fun hHeld => ?_)
        · (try dsimp only)
          exact HT9.out _ HEz.out
        clear hKc Kc x6 xf
        try simp only [Act.put, List.setIfInBounds_toArray, List.set_cons_zero, List.set_cons_succ]
        refine wpAnyH_done (by kernel_rfl) ?_ _
        go_wp2_with fail
        go_meet
        case rel => exact ⟨am, cm, Lib.hid ⟨HEz.out, by simpa using HBz.out, HShz.out⟩⟩
      · skip
        go_simp
        rw [foldl16 hC16]
        have e0 := (Ext.refl D1).alloc (.cells C.toArray 47)
        have HC2 := Lib.hid (HC1.out.trans e0)
        have HBm2 := Lib.hid (HBm1.out.ext e0)
        have HSh2 := Lib.hid (HSh1.out.ext e0)
        have hs2 : D1.heap.size < (D1.alloc (.cells C.toArray 47)).heap.size := by simp
        have HBo2 := Lib.hid (BoxL.new D1 C 47)
        clear e0
        refine hKc.out _ _ ?_ (fun hHeld => ?_)
        · (try dsimp only)
          exact HS.out _ HC2.out
        clear hKc Kc
        try simp only [Act.put, List.setIfInBounds_toArray, List.set_cons_zero, List.set_cons_succ]
        generalize D1.alloc (.cells C.toArray 47) = D2 at *
        refine ready_one 5 (by kernel_rfl) (by kernel_rfl) (by rfl) (fun Kc hKc => ?_)
        skip
        refine oper_appN (v := v0) _ _ rfl rfl HSh2.out (by omega) rfl (srcN_row HTk.out (HE9.out.trans (HXm.out.trans HC2.out))) (by simp only [List.length_nil, List.length_take]; omega) (fun v5 D3 h1 h2 => ?_)
        have hlow := HSh2.out.low
        have HC3 := Lib.hid (HC2.out.grown h2 (fun k hk => (hlow k hk).1))
        have HBm3 := Lib.hid (HBm2.out.kept h2 (fun q => by have := (hlow _ q).1; omega))
        have HBo3 := Lib.hid (HBo2.out.kept h2 (fun q => by rw [HV0.out] at q; injection q with q; omega))
        have HSh3 := Lib.hid h1
        have hs3 := h2.size
        clear h1 h2 hlow
        rw [List.nil_append] at HSh3
        go_simp
        refine hKc.out _ _ ?_ (fun hHeld => ?_)
        · (try dsimp only)
          exact HS.out _ HC3.out
        clear hKc Kc
        try simp only [Act.put, List.setIfInBounds_toArray, List.set_cons_zero, List.set_cons_succ]
        refine ready_one 8 (by kernel_rfl) (by kernel_rfl) (by rfl) (fun Kc hKc => ?_)
        skip
        refine oper_appN (v := v5) _ _ rfl rfl HSh3.out (by omega) rfl (srcN_box HBo3.out HC.out) (by simp only [List.length_append, List.length_nil, List.length_take, List.length_singleton]; omega) (fun v8 D4 h1 h2 => ?_)
        have hlow := HSh3.out.low
        have HC4 := Lib.hid (HC3.out.grown h2 (fun k hk => (hlow k hk).1))
        have HBm4 := Lib.hid (HBm3.out.kept h2 (fun q => by have := (hlow _ q).1; omega))
        have HSh4 := Lib.hid h1
        have hs4 := h2.size
        clear h1 h2 hlow
        go_simp
        refine hKc.out _ _ ?_ (fun hHeld => ?_)
        · (try dsimp only)
          exact HS.out _ HC4.out
        clear hKc Kc
        try simp only [Act.put, List.setIfInBounds_toArray, List.set_cons_zero, List.set_cons_succ]
        refine ready_one 13 (by kernel_rfl) (by kernel_rfl) (by rfl) (fun Kc hKc => ?_)
        skip
        refine oper_appN (v := v8) _ _ rfl rfl HSh4.out (by omega) rfl (srcN_row HDk.out (HE9.out.trans (HXm.out.trans HC4.out))) (by simp only [List.length_append, List.length_nil, List.length_take, List.length_drop, List.length_singleton]; omega) (fun v13 D5 h1 h2 => ?_)
        have hlow := HSh4.out.low
        have HC5 := Lib.hid (HC4.out.grown h2 (fun k hk => (hlow k hk).1))
        have HBm5 := Lib.hid (HBm4.out.kept h2 (fun q => by have := (hlow _ q).1; omega))
        have HSh5 := Lib.hid h1
        have hs5 := h2.size
        clear h1 h2 hlow
        go_simp
        refine hKc.out _ _ ?_ (fun hHeld => ?_)
        · (try dsimp only)
          exact HS.out _ HC5.out
        clear hKc Kc
        try simp only [Act.put, List.setIfInBounds_toArray, List.set_cons_zero, List.set_cons_succ]
        obtain ⟨am, cm, rfl⟩ : ∃ am cm, v13 = .slice am (s.nodes.length + 1) cm := by
          rcases HSh5.out.slice with ⟨q, -⟩ | ⟨g, cm, q, -⟩
          · have := congrArg List.length q; simp at this
          · refine ⟨_, cm, by rw [q]; congr 1; simp; omega⟩
        refine take_w 14 (some 78) (v := ?_) (by kernel_rfl) (by kernel_rfl) (by kernel_rfl) (by kernel_rfl) (by kernel_rfl) (fun _ _ _ h => h) (by rfl) ?_ (by assumption) ?_
        rotate_left
        · (intro w hSw; (try dsimp only at hSw); go_simp; try with_reducible rfl)
        try simp only [Act.put, List.setIfInBounds_toArray, List.set_cons_zero, List.set_cons_succ]
        have x6 := HBm5.out.cell 6 _ rfl
        have xf := HBm5.out.free 6
        have HBz := Lib.hid (HBm5.out.set 6 (by simp) (.slice am (s.nodes.length + 1) cm))
        have hgz := setOne_grown D5 w9.heap.size 6 (.slice am (s.nodes.length + 1) cm)
        have HEz := Lib.hid ((HXm.out.trans HC5.out).grown hgz (fun k hk => by injection hk with hk; omega))
        have HShz := Lib.hid ((HSh5.out.kept hgz (fun k hk => by injection hk with hk; omega)).row (HE9.out.trans HEz.out))
        clear hgz
        refine ready_one 15 (by kernel_rfl) (by kernel_rfl) (by rfl) (fun Kc hKc => ?_)
        go_simp
        refine hKc.out _ _ ?_ (fun hHeld => ?_)
        · (try dsimp only)
          exact HT9.out _ HEz.out
        clear hKc Kc x6 xf
        try simp only [Act.put, List.setIfInBounds_toArray, List.set_cons_zero, List.set_cons_succ]
        refine wpAnyH_done (by kernel_rfl) ?_ _
        go_wp2_with fail
        go_meet
        case rel => exact ⟨am, cm, Lib.hid ⟨HEz.out, by simpa using HBz.out, HShz.out⟩⟩
    · skip
      go_simp
      rw [foldl16 hC16]
      have e0 := (Ext.refl D0).alloc (.cells C.toArray 47)
      have HC1 := Lib.hid (HC0.out.trans e0)
      have HBm1 := Lib.hid (HBm0.out.ext e0)
      have hs1 : D0.heap.size < (D0.alloc (.cells C.toArray 47)).heap.size := by simp
      have HBo1 := Lib.hid (BoxL.new D0 C 47)
      clear e0
      refine hKc.out _ _ ?_ (fun hHeld => ?_)
      · (try dsimp only)
        exact HS.out _ HC1.out
      clear hKc Kc
      try simp only [Act.put, List.setIfInBounds_toArray, List.set_cons_zero, List.set_cons_succ]
      generalize D0.alloc (.cells C.toArray 47) = D1 at *
      refine ready_one 0 (by kernel_rfl) (by kernel_rfl) (by rfl) (fun Kc hKc => ?_)
      skip
      go_simp
      have e0 := (Ext.refl D1).alloc (.cells #[] 47)
      have HC2 := Lib.hid (HC1.out.trans e0)
      have HBm2 := Lib.hid (HBm1.out.ext e0)
      have HBo2 := Lib.hid (HBo1.out.ext e0)
      have hs2 : D1.heap.size < (D1.alloc (.cells #[] 47)).heap.size := by simp
      have HSh2 := Lib.hid (ShN.made (w0 := w) (base := W9.heap.size) (w := D1) (by omega))
      obtain ⟨v0, hv0⟩ : ∃ v0, v0 = Value.slice (some ⟨D1.heap.size, 0, none⟩) 0 0 := ⟨_, rfl⟩
      have HV0 : Hid (v0.ownBlock = some D1.heap.size) := Lib.hid (by rw [hv0]; rfl)
      rw [← hv0] at HSh2 ⊢
      clear hv0
      clear e0
      refine hKc.out _ _ ?_ (fun hHeld => ?_)
      · (try dsimp only)
        exact HS.out _ HC2.out
      clear hKc Kc
      try simp only [Act.put, List.setIfInBounds_toArray, List.set_cons_zero, List.set_cons_succ]
      generalize D1.alloc (.cells #[] 47) = D2 at *
      refine ready_one 5 (by kernel_rfl) (by kernel_rfl) (by rfl) (fun Kc hKc => ?_)
      skip
      refine oper_appN (v := v0) _ _ rfl rfl HSh2.out (by omega) rfl (srcN_row HTk.out (HE9.out.trans (HXm.out.trans HC2.out))) (by simp only [List.length_nil, List.length_take]; omega) (fun v5 D3 h1 h2 => ?_)
      have hlow := HSh2.out.low
      have HC3 := Lib.hid (HC2.out.grown h2 (fun k hk => (hlow k hk).1))
      have HBm3 := Lib.hid (HBm2.out.kept h2 (fun q => by have := (hlow _ q).1; omega))
      have HBo3 := Lib.hid (HBo2.out.kept h2 (fun q => by rw [HV0.out] at q; injection q with q; omega))
      have HSh3 := Lib.hid h1
      have hs3 := h2.size
      clear h1 h2 hlow
      rw [List.nil_append] at HSh3
      go_simp
      refine hKc.out _ _ ?_ (fun hHeld => ?_)
      · (try dsimp only)
        exact HS.out _ HC3.out
      clear hKc Kc
      try simp only [Act.put, List.setIfInBounds_toArray, List.set_cons_zero, List.set_cons_succ]
      refine ready_one 8 (by kernel_rfl) (by kernel_rfl) (by rfl) (fun Kc hKc => ?_)
      skip
      refine oper_appN (v := v5) _ _ rfl rfl HSh3.out (by omega) rfl (srcN_box HBo3.out HC.out) (by simp only [List.length_append, List.length_nil, List.length_take, List.length_singleton]; omega) (fun v8 D4 h1 h2 => ?_)
      have hlow := HSh3.out.low
      have HC4 := Lib.hid (HC3.out.grown h2 (fun k hk => (hlow k hk).1))
      have HBm4 := Lib.hid (HBm3.out.kept h2 (fun q => by have := (hlow _ q).1; omega))
      have HSh4 := Lib.hid h1
      have hs4 := h2.size
      clear h1 h2 hlow
      go_simp
      refine hKc.out _ _ ?_ (fun hHeld => ?_)
      · (try dsimp only)
        exact HS.out _ HC4.out
      clear hKc Kc
      try simp only [Act.put, List.setIfInBounds_toArray, List.set_cons_zero, List.set_cons_succ]
      refine ready_one 13 (by kernel_rfl) (by kernel_rfl) (by rfl) (fun Kc hKc => ?_)
      skip
      refine oper_appN (v := v8) _ _ rfl rfl HSh4.out (by omega) rfl (srcN_row HDk.out (HE9.out.trans (HXm.out.trans HC4.out))) (by simp only [List.length_append, List.length_nil, List.length_take, List.length_drop, List.length_singleton]; omega) (fun v13 D5 h1 h2 => ?_)
      have hlow := HSh4.out.low
      have HC5 := Lib.hid (HC4.out.grown h2 (fun k hk => (hlow k hk).1))
      have HBm5 := Lib.hid (HBm4.out.kept h2 (fun q => by have := (hlow _ q).1; omega))
      have HSh5 := Lib.hid h1
      have hs5 := h2.size
      clear h1 h2 hlow
      go_simp
      refine hKc.out _ _ ?_ (fun hHeld => ?_)
      · (try dsimp only)
        exact HS.out _ HC5.out
      clear hKc Kc
      try simp only [Act.put, List.setIfInBounds_toArray, List.set_cons_zero, List.set_cons_succ]
      obtain ⟨am, cm, rfl⟩ : ∃ am cm, v13 = .slice am (s.nodes.length + 1) cm := by
        rcases HSh5.out.slice with ⟨q, -⟩ | ⟨g, cm, q, -⟩
        · have := congrArg List.length q; simp at this
        · refine ⟨_, cm, by rw [q]; congr 1; simp; omega⟩
      refine take_w 14 (some 78) (v := ?_) (by kernel_rfl) (by kernel_rfl) (by kernel_rfl) (by kernel_rfl) (by kernel_rfl) (fun _ _ _ h => h) (by rfl) ?_ (by assumption) ?_
      rotate_left
      · (intro w hSw; (try dsimp only at hSw); go_simp; try with_reducible rfl)
      try simp only [Act.put, List.setIfInBounds_toArray, List.set_cons_zero, List.set_cons_succ]
      have x6 := HBm5.out.cell 6 _ rfl
      have xf := HBm5.out.free 6
      have HBz := Lib.hid (HBm5.out.set 6 (by simp) (.slice am (s.nodes.length + 1) cm))
      have hgz := setOne_grown D5 w9.heap.size 6 (.slice am (s.nodes.length + 1) cm)
      have HEz := Lib.hid ((HXm.out.trans HC5.out).grown hgz (fun k hk => by injection hk with hk; omega))
      have HShz := Lib.hid ((HSh5.out.kept hgz (fun k hk => by injection hk with hk; omega)).row (HE9.out.trans HEz.out))
      clear hgz
      refine ready_one 15 (by kernel_rfl) (by kernel_rfl) (by rfl) (fun Kc hKc => ?_)
      go_simp
      refine hKc.out _ _ ?_ (fun hHeld => ?_)
      · (try dsimp only)
        exact HT9.out _ HEz.out
      clear hKc Kc x6 xf
      try simp only [Act.put, List.setIfInBounds_toArray, List.set_cons_zero, List.set_cons_succ]
      refine wpAnyH_done (by kernel_rfl) ?_ _
      go_wp2_with fail
      go_meet
      case rel => exact ⟨am, cm, Lib.hid ⟨HEz.out, by simpa using HBz.out, HShz.out⟩⟩
  case rest =>
  obtain ⟨am, cm, HZ⟩ := hcut
  have HEz := Lib.hid HZ.out.1
  have HBz := Lib.hid HZ.out.2.1
  have HRz := Lib.hid HZ.out.2.2
  have HEa := Lib.hid (HE9.out.trans HEz.out)
  have HBxa := Lib.hid (HBx9.out.ext HEz.out)
  have HRowa := Lib.hid (HRow9.out.ext HEz.out)
  have HM : Hid (snB { s with nodes := s.nodes.take G ++ [n] ++ s.nodes.drop G } = (eb && ndB n)) := Lib.hid (by rw [HEB.out]; exact snB_more s n G HL60.out.1)
  clear HZ HE9 HBx9 HRow9 H19 H29 HXm HBm HBm0 HS HT9 HC0 HDk HTk hup hfr HEz hC16 hm9 hndl
  have ⟨p0, p1, p2, p3, p4, p5, p6, p7⟩ := HBz.out.n8
  go_wp2_with fail
  refine (sright_any { s with nodes := s.nodes.take G ++ [n] ++ s.nodes.drop G } wc _ ⟨_, _, _, rfl, HRz.out, HW.out⟩).mono ?_
  rw [HM.out]
  rintro e wd ⟨rfl, hEd⟩
  have HEd := Lib.hid (HEa.out.trans hEd)
  have HBd := Lib.hid (HBz.out.ext hEd)
  have HRd := Lib.hid (HRz.out.ext hEd)
  have HBxd := Lib.hid (HBxa.out.ext hEd)
  have HRowd := Lib.hid (HRowa.out.ext hEd)
  clear hEd HEa HBz HRz HBxa HRowa p0 p1 p2 p3 p4 p5 p6 p7
  cases eb with
  | false =>
    rw [Bool.false_and] at HM ⊢
    have ⟨p0, p1, p2, p3, p4, p5, p6, p7⟩ := HBd.out.n8
    go_wp2_with fail
    refine (sbytes_any { s with nodes := s.nodes.take G ++ [n] ++ s.nodes.drop G } wd _ ⟨_, _, _, rfl, HRd.out, HW.out⟩).mono ?_
    rintro e wf ⟨ab, mb, cb, nb, rfl, hEf, hno, hyes⟩
    obtain ⟨rfl, rfl⟩ := hno HM.out
    have HEf := Lib.hid (HEd.out.trans hEf)
    have HBf := Lib.hid (HBd.out.ext hEf)
    have HRf := Lib.hid (HRd.out.ext hEf)
    clear hno hyes hEf HEd HBd HRd p0 p1 p2 p3 p4 p5 p6 p7
    have ⟨p0, p1, p2, p3, p4, p5, p6, p7⟩ := HBf.out.n8
    go_wp2_with fail
    refine (sright_any { s with nodes := s.nodes.take G ++ [n] ++ s.nodes.drop G } wf _ ⟨_, _, _, rfl, HRf.out, HW.out⟩).mono ?_
    rw [HM.out]
    rintro e wg ⟨rfl, hEg⟩
    have HEg := Lib.hid (HEf.out.trans hEg)
    clear hEg HEf HBf HRf p0 p1 p2 p3 p4 p5 p6 p7
    go_wp2_with fail
    refine (awake11 _).mono ?_
    rintro e wz ⟨rfl, hEz⟩
    have HEz := Lib.hid (HEg.out.trans hEz)
    clear hEz
    go_wp2
    go_ret
    exact ⟨rfl, HEz.out⟩
  | true =>
    rw [Bool.true_and] at HM ⊢
    have ⟨q0, q1, q2, q3, q4, q5, q6, q7⟩ := HBxd.out.n8
    cases hnb : ndB n with
    | false =>
      rw [hnb] at HM
      go_wp2_with fail
      refine (sright_any (snOf [n]) wd _ (snOf_v HRowd.out)).mono ?_
      rw [snB_one, hnb]
      rintro e we ⟨rfl, hEe⟩
      have HEe := Lib.hid (HEd.out.trans hEe)
      have HBe := Lib.hid (HBd.out.ext hEe)
      have HRe := Lib.hid (HRd.out.ext hEe)
      clear hEe HEd HBd HRd HBxd HRowd hnb q0 q1 q2 q3 q4 q5 q6 q7
      have ⟨p0, p1, p2, p3, p4, p5, p6, p7⟩ := HBe.out.n8
      go_wp2_with fail
      refine (sbytes_any { s with nodes := s.nodes.take G ++ [n] ++ s.nodes.drop G } we _ ⟨_, _, _, rfl, HRe.out, HW.out⟩).mono ?_
      rintro e wf ⟨ab, mb, cb, nb, rfl, hEf, hno, hyes⟩
      obtain ⟨rfl, rfl⟩ := hno HM.out
      have HEf := Lib.hid (HEe.out.trans hEf)
      have HBf := Lib.hid (HBe.out.ext hEf)
      have HRf := Lib.hid (HRe.out.ext hEf)
      clear hno hyes hEf HEe HBe HRe p0 p1 p2 p3 p4 p5 p6 p7
      have ⟨p0, p1, p2, p3, p4, p5, p6, p7⟩ := HBf.out.n8
      go_wp2_with fail
      refine (sright_any { s with nodes := s.nodes.take G ++ [n] ++ s.nodes.drop G } wf _ ⟨_, _, _, rfl, HRf.out, HW.out⟩).mono ?_
      rw [HM.out]
      rintro e wg ⟨rfl, hEg⟩
      have HEg := Lib.hid (HEf.out.trans hEg)
      clear hEg HEf HBf HRf p0 p1 p2 p3 p4 p5 p6 p7
      go_wp2_with fail
      refine (awake11 _).mono ?_
      rintro e wz ⟨rfl, hEz⟩
      have HEz := Lib.hid (HEg.out.trans hEz)
      clear hEz
      go_wp2
      go_ret
      exact ⟨rfl, HEz.out⟩
    | true =>
      rw [hnb] at HM
      go_wp2_with fail
      refine (sright_any (snOf [n]) wd _ (snOf_v HRowd.out)).mono ?_
      rw [snB_one, hnb]
      rintro e we ⟨rfl, hEe⟩
      have HEe := Lib.hid (HEd.out.trans hEe)
      have HBe := Lib.hid (HBd.out.ext hEe)
      have HRe := Lib.hid (HRd.out.ext hEe)
      clear hEe HEd HBd HRd HBxd HRowd hnb q0 q1 q2 q3 q4 q5 q6 q7
      have ⟨p0, p1, p2, p3, p4, p5, p6, p7⟩ := HBe.out.n8
      go_wp2_with fail
      refine (sbytes_any { s with nodes := s.nodes.take G ++ [n] ++ s.nodes.drop G } we _ ⟨_, _, _, rfl, HRe.out, HW.out⟩).mono ?_
      rintro e wf ⟨ab, mb, cb, nb, rfl, hEf, hno, hyes⟩
      obtain ⟨rfl, -⟩ := hyes HM.out
      have HEf := Lib.hid (HEe.out.trans hEf)
      have HBf := Lib.hid (HBe.out.ext hEf)
      have HRf := Lib.hid (HRe.out.ext hEf)
      clear hno hyes hEf HEe HBe HRe p0 p1 p2 p3 p4 p5 p6 p7
      have ⟨p0, p1, p2, p3, p4, p5, p6, p7⟩ := HBf.out.n8
      go_wp2_with fail
      refine (sright_any { s with nodes := s.nodes.take G ++ [n] ++ s.nodes.drop G } wf _ ⟨_, _, _, rfl, HRf.out, HW.out⟩).mono ?_
      rw [HM.out]
      rintro e wg ⟨rfl, hEg⟩
      have HEg := Lib.hid (HEf.out.trans hEg)
      clear hEg HEf HBf HRf p0 p1 p2 p3 p4 p5 p6 p7
      go_wp2_with fail
      refine (awake11 _).mono ?_
      rintro e wz ⟨rfl, hEz⟩
      have HEz := Lib.hid (HEg.out.trans hEz)
      clear hEz
      go_wp2
      go_ret
      exact ⟨rfl, HEz.out⟩
end Go.Proofs.YtdienbcjfljjnaaDoor
