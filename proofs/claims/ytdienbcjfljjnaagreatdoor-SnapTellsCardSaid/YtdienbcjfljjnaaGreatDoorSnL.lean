/- Walks: Few of law 11. -/
import Derived.Test.YtdienbcjfljjnaaGreatDoorSnB
import Derived.Test.YtdienbcjfljjnaaGreatDoorBoxS
import Derived.Test.YtdienbcjfljjnaaGreatDoorShelfF
open Go.RowKit Go.Shelf
namespace Go.Proofs.YtdienbcjfljjnaaGreatDoor
open Go Go.Proofs Fm

def lightT (t : Tr) : Bool := decide (fewT 20 t ≤ 600)
/-- Is a node light? -/
def lightNd (n : Nd) : Bool := decide (n.id.length ≤ 500) && (decide (n.name.length ≤ 100) && (decide (n.after.length ≤ 40) && lightT n.val))
def fewSn (s : Sn) : Bool := decide (s.nodes.length ≤ 60) && s.nodes.all lightNd
theorem fewSn_not {s : Sn} {j : Nat} (hj : j < s.nodes.length) (h : lightNd s.nodes[j] = false) : fewSn s = false := by
  cases e : fewSn s with
  | false => rfl
  | true =>
    unfold fewSn at e
    rw [Bool.and_eq_true, List.all_eq_true] at e
    rw [e.2 _ (List.getElem_mem hj)] at h
    cases h
theorem all_more {α : Type} {f : α → Bool} {l : List α} {j : Nat} (hj : j < l.length) (h : (l.take j).all f = true) (hx : f l[j] = true) : (l.take (j + 1)).all f = true := by
  rw [List.take_add_one, List.getElem?_eq_getElem hj, List.all_append, h]; simp [hx]
theorem info_ndL : (Tryz.prog.info? 59).map (·.size) = some 16 := by kernel_rfl
/-- A node's cells, whole and in parts. -/
theorem nd_op2 {w wr : World} {l : List Nd} {a : Option Addr} {n cap : Nat} (h : ndE.Row w l (.slice a n cap)) (hE : Ext w wr) (i : Nat) (hi : i < l.length) :
    ∃ (b off : Nat), a = some ⟨b, off, none⟩ ∧ b < w.heap.size ∧ ∃ C : List Value, C.length = 16 ∧ (∀ u, u ∈ C → u.oneCell' = true) ∧ (∀ j v, C[j]? = some v → wr.cell? ⟨b, off + i * 16 + j, none⟩ = some v) ∧ NdV w l[i] (.agg C.toArray) ∧
      ∃ (aa : Option Addr) (m c : Nat) (kk nn : Int) (ss : ByteArray) (va : Option Addr) (vm vc : Nat), C = ndCells l[i] (.slice aa m c) (.int .u8 kk) (.int .i64 nn) (.string ss) (.slice va vm vc) ∧ m = l[i].after.length ∧ Lies w l[i].val (.agg #[.int .u8 kk, .int .i64 nn, .string ss, .slice va vm vc]) := by
  obtain ⟨b, off, ha, hb, aa, m, c, k, N, s, d, h1, h2⟩ := nd_at h hE i hi
  obtain ⟨kk, nn, ss, va, vm, vc, rfl, rfl, rfl, rfl⟩ := h2.four
  refine ⟨b, off, ha, hb, _, rfl, ndCells_one, fun j v hv => by rw [Nat.add_assoc]; exact h1 j v hv, h2, aa, m, c, kk, nn, ss, va, vm, vc, rfl, ?_, ?_⟩
  · obtain ⟨a', m', c', k', N', s', l', e1, e2, -⟩ := h2
    simp only [ndCells] at e1
    injection e1 with e1
    injection e1 with e1
    simp only [List.cons.injEq, and_true, Value.slice.injEq] at e1
    obtain ⟨_, _, e3, _⟩ := e2.slice
    injection e3
    omega
  · obtain ⟨a', m', c', k', N', s', l', e1, -, e3, -⟩ := h2
    simp only [ndCells] at e1
    injection e1 with e1
    injection e1 with e1
    simp only [List.cons.injEq, and_true] at e1
    obtain ⟨-, -, -, -, -, -, -, -, -, -, -, -, rfl, rfl, rfl, rfl⟩ := e1
    exact e3

set_option maxRecDepth 100000 in
set_option maxHeartbeats 8000000 in
theorem few11_any (s : Sn) (w : World) (v : Value) (h : SnV w s v) :
    Calls Tryz.prog 5 #[v] w fun e w' => e = .returned (.bool (fewSn s)) ∧ Ext w w' := by
  obtain ⟨a, m, c, rfl, hr, -⟩ := h
  have hm : m = s.nodes.length := by obtain ⟨_, _, e, _⟩ := hr.slice; injection e
  have hml : m ≤ 9223372036854775807 := by rw [hm]; exact hr.length_le
  have b1 := BoxL.new w [.int .i64 s.cq, .int .i64 s.cd, .int .i64 s.cw, .int .i64 s.cr, .int .i64 s.cf, .int .i64 s.flows, .slice a m c, .int .i64 s.tok] 26
  have e1 := (Ext.refl w).alloc (.cells #[.int .i64 s.cq, .int .i64 s.cd, .int .i64 s.cw, .int .i64 s.cr, .int .i64 s.cf, .int .i64 s.flows, .slice a m c, .int .i64 s.tok] 26)
  have HR := Lib.hid (hr.ext e1)
  have HW := Lib.hid e1
  have HM := Lib.hid hm
  clear hr e1 hm
  go_enter Tryz.func5, Tryz.ntmps5
  go_upto_region 1 with (fail)
  generalize w.alloc (.cells #[.int .i64 s.cq, .int .i64 s.cd, .int .i64 s.cw, .int .i64 s.cr, .int .i64 s.cf, .int .i64 s.flows, .slice a m c, .int .i64 s.tok] 26) = W1 at *
  have ⟨p0, p1, p2, p3, p4, p5, p6, p7⟩ := b1.n8
  clear b1
  by_cases h60 : 60 < m
  case pos =>
    have HX := Lib.hid (show fewSn s = false by unfold fewSn; have := HM.out; simp; intro h; omega)
    have h60' : (60 : Int) < (m : Int) := by omega
    go_wp2
    go_ret
    exact ⟨by rw [HX.out]; rfl, HW.out⟩
  have h60' : ¬ (60 : Int) < (m : Int) := by omega
  go_wp2_with fail
  clear p0 p1 p2 p3 p4 p5 p6 p7
  go_loopw [12] (fun i wr => ∃ j : Nat, j ≤ m ∧ i = .int .i64 j ∧ Hid ((s.nodes.take j).all lightNd = true) ∧ Hid (Ext W1 wr)) (fun i _ => m - (intOf i).toNat)
  case atStart => exact ⟨0, by omega, rfl, Lib.hid (by simp), Lib.hid (Ext.refl _)⟩
  case round =>
    obtain ⟨j, hj, rfl, HA, HE⟩ := hrel
    by_cases hlt : j < m
    case neg =>
      have hjm : j = m := by omega
      have HX := Lib.hid (show fewSn s = true by
        have := HA.out
        rw [hjm, HM.out, List.take_length] at this
        unfold fewSn; rw [this]; have := HM.out; simp; omega)
      clear hjm HA
      go_wp2
      go_ret
      exact ⟨by rw [HX.out]; rfl, HW.out.trans HE.out⟩
    have hjn : j < s.nodes.length := by have := HM.out; omega
    obtain ⟨b, off, rfl, hb, C, hC, hC1, hRg, hs, aa, mm, cc, kk, nn, ss, va, vm, vc, hCe, hmm, hl⟩ := nd_op2 HR.out HE.out j hjn
    have HC := Lib.hid (show wr.rangeAt b (off + j * 16) C from hRg)
    have HC0 := Lib.hid hC
    have HC1 := Lib.hid hC1
    have HCe := Lib.hid hCe
    have HL := Lib.hid (hl.ext HE.out)
    have HCi : Hid ((Tryz.prog.info? 59).map (·.size) = some C.length) := Lib.hid (by rw [hC]; exact info_ndL)
    have hj0 : (0 : Int) ≤ (j : Int) := by omega
    have HMM := Lib.hid hmm
    have haf := (NdV.wf hs)
    have hil : s.nodes[j].id.length ≤ 9223372036854775807 := haf.1
    have hnl : s.nodes[j].name.length ≤ 9223372036854775807 := haf.2.1
    have hmml : mm ≤ 9223372036854775807 := by
      obtain ⟨a', m', c', k', N', s', l', e1, e2, -⟩ := hs
      rw [hmm]; exact e2.length_le
    clear hs hC hC1 hRg hb hCe hl hmm haf
    obtain ⟨n, hn⟩ : ∃ n, n = s.nodes[j] := ⟨_, rfl⟩
    rw [← hn] at HCe HL HMM hil hnl
    have HNn := Lib.hid hn
    have hs1 := str_size n.id
    have hs2 := str_size n.name
    clear hn
    go_upto_region 6 with (first | (refine wpList_load_mid rfl _ _ rfl _ _ rfl _ _ HC.out Tryz.underlying59 rfl HCi.out ?_) | (refine wpList_storeBox rfl _ _ _ rfl _ _ _ _ rfl rfl rfl rfl info_ndL rfl HC0.out HC1.out ?_))
    have hE1 := (Ext.refl wr).alloc (.cells C.toArray 59)
    have hX := BoxL.new wr C 59
    generalize wr.alloc (.cells C.toArray 59) = W2 at *
    have HE2 := Lib.hid (HE.out.trans hE1)
    have HL2 := Lib.hid (HL.out.ext hE1)
    rw [HCe.out] at hX
    unfold ndCells at hX
    have ⟨q0, q1, q2, q3, q4, q5, q6, q7, q8, q9, q10, q11, q12, q13, q14, q15⟩ := hX.n16
    clear hE1 hX
    have HX0 : Hid (lightNd n = false → fewSn s = false) := Lib.hid (fun h => fewSn_not hjn (by rw [← HNn.out]; exact h))
    by_cases hi5 : n.id.length ≤ 500
    case neg =>
      have HX := Lib.hid (HX0.out (by unfold lightNd; simp [hi5]))
      have hi5' : (500 : Int) < (n.id.length : Int) := by omega
      go_wp2
      go_ret
      exact ⟨by rw [HX.out]; rfl, HW.out.trans HE2.out⟩
    have hi5' : ¬ (500 : Int) < (n.id.length : Int) := by omega
    by_cases hn1 : n.name.length ≤ 100
    case neg =>
      have HX := Lib.hid (HX0.out (by unfold lightNd; simp [hn1]))
      have hn1' : (100 : Int) < (n.name.length : Int) := by omega
      go_wp2
      go_ret
      exact ⟨by rw [HX.out]; rfl, HW.out.trans HE2.out⟩
    have hn1' : ¬ (100 : Int) < (n.name.length : Int) := by omega
    by_cases ha4 : n.after.length ≤ 40
    case neg =>
      have HX := Lib.hid (HX0.out (by unfold lightNd; simp [ha4]))
      have ha4' : (40 : Int) < (mm : Int) := by have := HMM.out; omega
      go_wp2
      go_ret
      exact ⟨by rw [HX.out]; rfl, HW.out.trans HE2.out⟩
    have ha4' : ¬ (40 : Int) < (mm : Int) := by have := HMM.out; omega
    go_wp2_with fail
    refine (Few_any n.val W2 _ HL2.out).mono ?_
    rw [show decide (fewT 20 n.val ≤ 600) = lightT n.val from rfl]
    rintro e w3 ⟨rfl, hE3⟩
    have HE3 := Lib.hid (HE2.out.trans hE3)
    have HLn : Hid (lightNd n = lightT n.val) := Lib.hid (by unfold lightNd; simp [hi5, hn1, ha4])
    clear hE3 q0 q1 q2 q3 q4 q5 q6 q7 q8 q9 q10 q11 q12 q13 q14 q15 hi5 hn1 ha4
    cases hq : lightT n.val with
    | false =>
      have HX := Lib.hid (HX0.out (by rw [HLn.out, hq]))
      clear hq
      go_wp2
      go_ret
      exact ⟨by rw [HX.out]; rfl, HW.out.trans HE3.out⟩
    | true =>
      have HA2 := Lib.hid (all_more hjn HA.out (by rw [← HNn.out, HLn.out, hq]))
      clear hq HA
      go_wp2
      go_roundw
      case rel => exact ⟨j + 1, by omega, by go_num, HA2, HE3⟩
      case measure => simp [intOf]; omega
end Go.Proofs.YtdienbcjfljjnaaGreatDoor
