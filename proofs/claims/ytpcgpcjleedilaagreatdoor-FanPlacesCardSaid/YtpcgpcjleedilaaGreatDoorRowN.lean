/- Rows of numbers and of values out of a row's reading. -/
import Derived.Test.YtpcgpcjleedilaaGreatDoorPlFs
import Derived.Test.YtpcgpcjleedilaaGreatDoorPlFp
import Derived.Test.YtpcgpcjleedilaaGreatDoorPlO
import Derived.ProofKit
import Derived.OpenShut
import Derived.ShutString
import Derived.ChangeOld
import Derived.Test.YtpcgpcjleedilaaGreatDoorValP
import Derived.LaidLaws
import Derived.Lib.LaidTab
import Derived.Test.YtpcgpcjleedilaaGreatDoorProg
open Go.RowKit Go.Shelf
namespace Go.Proofs.YtpcgpcjleedilaaGreatDoor
open Go Go.Proofs Fm

theorem sizeof_nodeL : ∀ w, (sizeOf (Tryz.prog.elem 40)).run Tryz.prog w = .ok 16 w := fun _ => by kernel_rfl
theorem slice_nodeL_from (a : Option Addr) (len cap k : Nat) (K : Int) (hK : K = (k : Int)) (h1 : k ≤ len) (w : World) :
    (Instr.slice 40 (.slice a len cap) (some (.int .i64 K)) none none).run Tryz.prog w = .ok (.slice (if cap = k then a else a.map (·.add (k * 16))) (len - k) (cap - k)) w := by
  subst hK
  rw [run_slice_l (ht := by kernel_rfl) (h0 := by omega) (h1 := by omega), sizeof_nodeL]
  simp [Result.andThen, sliced]
theorem slice_nodeL_upto (a : Option Addr) (len cap k : Nat) (K : Int) (hK : K = (k : Int)) (h1 : k ≤ cap) (w : World) :
    (Instr.slice 40 (.slice a len cap) none (some (.int .i64 K)) none).run Tryz.prog w = .ok (.slice a k cap) w := by
  subst hK
  rw [run_slice_h (ht := by kernel_rfl) (h0 := by omega) (h2 := by omega), sizeof_nodeL]
  cases a <;> simp [Result.andThen, sliced, Addr.add]
theorem slice_nodeL_full (a : Option Addr) (len cap k : Nat) (h1 : k ≤ cap) (w : World) :
    (Instr.slice 40 (.slice a len cap) none (some (.int .i64 (k : Int))) (some (.int .i64 (k : Int)))).run Tryz.prog w = .ok (.slice a k k) w := by
  rw [run_slice_hm (ht := by kernel_rfl) (h0 := by omega) (h2 := by omega) (h3 := by omega), sizeof_nodeL]
  cases a <;> simp [Result.andThen, sliced, Addr.add]
theorem u8_atL {w wr : World} {l : List UInt8} {a : Option Addr} {n cap : Nat} (h : u8E.Row w l (.slice a n cap)) (hE : Ext w wr) (i : Nat) (hi : i < l.length) :
    ∃ (b off : Nat), a = some ⟨b, off, none⟩ ∧ b < w.heap.size ∧ wr.cell? ⟨b, off + i, none⟩ = some (.int .u8 (l[i].toNat : Int)) := by
  obtain ⟨hn, b, off, ha, hb, hc⟩ := h.at (by omega)
  obtain ⟨c, r0, hcell⟩ := hc i hi
  refine ⟨b, off, ha, hb, ?_⟩
  have := hcell 0 (by decide) wr hE
  rw [show c 0 = .int .u8 (l[i].toNat : Int) from r0] at this
  have e : i * u8E.sz + 0 = i := by show i * 1 + 0 = i; omega
  rw [e] at this
  exact this
theorem make_vals (n : Nat) (hn : n ≤ 100000) (w : World) : ∃ w', (Instr.makeSlice 42 (.int .i64 (n : Int)) (.int .i64 (n : Int))).run Tryz.prog w = .ok (.slice (some ⟨w.heap.size, 0, none⟩) n n) w' ∧
    WantV 44 w.heap.size w' w.heap.size n (fun _ => 0) ∧ Ext w w' := by
  obtain ⟨i, h1, h2, h3, h4⟩ := info_parts infoval_F
  obtain ⟨w', hr, ho, hg⟩ := run_make_full w w.heap.size 42 44 i (.agg #[.int .u8 0, .int .i64 0, .string { data := #[] }, .slice none 0 0]) 4 Tryz.underlying42 h1 h2 h3 .i64 .i64 n (by rw [h4]; omega) (by unfold maxLen; omega) (Nat.le_refl _)
  refine ⟨w', hr, ?_, (Ext.refl w).grown hg (fun k hk => by cases hk)⟩
  have e : (Value.agg #[.int .u8 0, .int .i64 0, .string { data := #[] }, .slice none 0 0]).cells = #[.int .u8 0, .int .i64 0, .string { data := #[] }, .slice none 0 0] := by kernel_rfl
  rw [e, madeCells4] at ho
  exact ho
theorem fill_nodes3 {C D E : List Value} (hC : C.length = 16) (hD : D.length = 16) (hE : E.length = 16) (n : Nat) (hn : n = 16) (z : Value) (hz : z = .agg ndZ.toArray) :
    Instr.fill (fun i => some (i * n, n)) ((Array.range (3 * n)).map (z.cells[· % z.cells.size]!)) [(0, .agg C.toArray), (1, .agg D.toArray), (2, .agg E.toArray)] = some (C ++ D ++ E).toArray := by
  subst hn hz
  obtain ⟨c0, c1, c2, c3, c4, c5, c6, c7, c8, c9, c10, c11, c12, c13, c14, c15, rfl⟩ := list_of16 hC
  obtain ⟨d0, d1, d2, d3, d4, d5, d6, d7, d8, d9, d10, d11, d12, d13, d14, d15, rfl⟩ := list_of16 hD
  obtain ⟨e0, e1, e2, e3, e4, e5, e6, e7, e8, e9, e10, e11, e12, e13, e14, e15, rfl⟩ := list_of16 hE
  kernel_rfl
/-- A slice of three nodes, whatever their cells. -/
theorem wpList_nodes3 {ops : Array Oper} {rest : List Oper} {o : Oper} {a : Act} {w : World} {Q : Exit → Act → World → Prop} {C D E : List Value} (hg : o.guard = none) (s1 s2 s3 : Operand) (ho : o.op = .buildSlice 40 3 #[(0, s1), (1, s2), (2, s3)])
    (h1 : a.eval s1 = .agg C.toArray) (h2 : a.eval s2 = .agg D.toArray) (h3 : a.eval s3 = .agg E.toArray) (hC : C.length = 16) (hD : D.length = 16) (hE : E.length = 16) {N : List Value} (hN : N = C ++ D ++ E)
    (h : wpList Tryz.prog ops Q rest (a.put o.dst (.slice (some ⟨w.heap.size, 0, none⟩) 3 3)) (w.alloc (.cells N.toArray 46))) : wpList Tryz.prog ops Q (o :: rest) a w := by
  subst hN
  obtain ⟨i, i1, i2, i3, i4⟩ := info_parts infonode_F
  refine wpList_buildSlice hg 40 46 3 _ ho (C ++ D ++ E).toArray i (.agg ndZ.toArray) Tryz.underlying40 i1 i2 (by rw [i3]; decide) (by rw [i3]; decide) ?_ h
  have e : (#[(0, s1), (1, s2), (2, s3)].map fun (x : Nat × Operand) => (x.1, a.eval x.2)).toList = [(0, .agg C.toArray), (1, .agg D.toArray), (2, .agg E.toArray)] := by simp [h1, h2, h3]
  exact (congrArg _ e).trans (fill_nodes3 hC hD hE i.size i3 _ rfl)
theorem Src.block {P : Program} {tx e' : TypeId} (hk : P.underlying tx = some (.slice e')) (w : World) {n m : Nat} {e : TypeId} {news : List Value} (hl : news.length = m * n) (h1 : ∀ u, u ∈ news → u.oneCell' = true) : Src P n tx (.slice (some ⟨w.heap.size, 0, none⟩) m m) m news (w.alloc (.cells news.toArray e)) :=
  Src.ofSlice _ hk _ _ _ _ hl (fun j u hu => by
    have := rangeAt_new w news e j u hu
    rw [Addr.add_lit]; exact this) h1
/-- The cells of the nodes between. -/
def cellsZ : List Value := [.string { data := #[49, 47, 122] }, .string { data := #[] }, .int .u8 0, .int .i64 0, .int .i64 1, .int .i64 0, .slice none 0 0, .int .i64 0, .int .i64 0, .int .u8 4, .int .i64 0, .int .i64 0, .int .u8 0, .int .i64 0, .string { data := #[] }, .slice none 0 0]
def cellsY : List Value := [.string { data := #[49, 47, 121] }, .string { data := #[] }, .int .u8 2, .int .i64 0, .int .i64 0, .int .i64 0, .slice none 0 0, .int .i64 0, .int .i64 0, .int .u8 4, .int .i64 0, .int .i64 0, .int .u8 0, .int .i64 0, .string { data := #[] }, .slice none 0 0]
theorem ndZ_v (W : World) : NdV W ndTZ (.agg cellsZ.toArray) := by
  have z : isI64 0 := by unfold isI64; omega
  exact ⟨none, 0, 0, .int .u8 0, .int .i64 0, .string { data := #[] }, .slice none 0 0, rfl, Elem.Row.void _ _ _, numT_lies z W, by simp [ndTZ], by simp [ndTZ], z, by show isI64 1; unfold isI64; omega, z, z, z, z, z⟩
theorem ndY_v (W : World) : NdV W ndTY (.agg cellsY.toArray) := by
  have z : isI64 0 := by unfold isI64; omega
  exact ⟨none, 0, 0, .int .u8 0, .int .i64 0, .string { data := #[] }, .slice none 0 0, rfl, Elem.Row.void _ _ _, numT_lies z W, by simp [ndTY], by simp [ndTY], z, z, z, z, z, z, z⟩
/-- What an instance's cells come to. -/
def doneC (D : List Value) (x : Int) : List Value := ((((D.set 9 (.int .u8 4)).set 12 (.int .u8 0)).set 13 (.int .i64 x)).set 14 (.string { data := #[] })).set 15 (.slice none 0 0)
theorem doneC_v {W : World} {n j : Nat} {D : List Value} (h : NdV W (eachNd (ndOM n 0) 1 j) (.agg D.toArray)) (hj : j ≤ 100) : NdV W (ndTX n j) (.agg (doneC D (100 + (j : Int))).toArray) :=
  ndV_val (n := { eachNd (ndOM n 0) 1 j with stand := 4 }) (ndV_stand h 4) (numT_lies (by unfold isI64; omega) W)
theorem ndV_place5 {W : World} {x : Nd} {D : List Value} (h : NdV W x (.agg D.toArray)) : D[5]? = some (.int .i64 x.place) := by
  obtain ⟨a, m, c, k, N, S, d, e, -⟩ := h
  injection e with e
  injection e with e
  subst e
  rfl
theorem doneC_cells {D : List Value} {x : Int} {u : Value} (h : D.length = 16) (h5 : D[5]? = some u) : (doneC D x)[5]? = some u ∧ (doneC D x)[12]? = some (.int .u8 0) ∧ (doneC D x)[13]? = some (.int .i64 x) ∧ (doneC D x)[14]? = some (.string { data := #[] }) ∧ (doneC D x)[15]? = some (.slice none 0 0) := by
  obtain ⟨c0, c1, c2, c3, c4, c5, c6, c7, c8, c9, c10, c11, c12, c13, c14, c15, rfl⟩ := list_of16 h
  exact ⟨h5, rfl, rfl, rfl, rfl⟩
theorem doneC_one {D : List Value} {x : Int} (h : D.length = 16) (h1 : ∀ u, u ∈ D → u.oneCell' = true) : (doneC D x).length = 16 ∧ ∀ u, u ∈ doneC D x → u.oneCell' = true := by
  obtain ⟨c0, c1, c2, c3, c4, c5, c6, c7, c8, c9, c10, c11, c12, c13, c14, c15, rfl⟩ := list_of16 h
  refine ⟨rfl, fun u hu => ?_⟩
  have hu : u ∈ [c0, c1, c2, c3, c4, c5, c6, c7, c8, .int .u8 4, c10, c11, .int .u8 0, .int .i64 x, .string { data := #[] }, .slice none 0 0] := hu
  simp only [List.mem_cons, List.not_mem_nil, or_false] at hu h1
  rcases hu with rfl | rfl | rfl | rfl | rfl | rfl | rfl | rfl | rfl | rfl | rfl | rfl | rfl | rfl | rfl | rfl
  all_goals first | rfl | exact h1 _ (by simp)
theorem _root_.Go.World.grownBy.trans' {a b c : World} {r : Option Nat} (h : a.grownBy b r) (k : b.grownBy c r) : a.grownBy c r := grown_trans h k
theorem turnedT_more (ins : List Tr) (q : List Nat) (j : Nat) : turnedT ins (q ++ [j]) = turnedT ins q ++ [ndTX ins.length j, ndTZ, ndTY] := by
  unfold turnedT
  rw [List.map_append, List.flatten_append, List.append_assoc]
  simp [tripT]
theorem turnedT_len (ins : List Tr) (q : List Nat) : (turnedT ins q).length = 2 + 3 * q.length := by
  induction q with
  | nil => rfl
  | cons a q ih =>
    unfold turnedT at ih ⊢
    simp only [List.length_append, List.map_cons, List.flatten_cons, tripT] at ih ⊢
    simp at ih ⊢
    omega
theorem fam_more {j : Nat} {q : List Nat} : updI (fun i => if i ∈ q then 100 + (i : Int) else 0) j (100 + (j : Int)) = fun i => if i ∈ q ++ [j] then 100 + (i : Int) else 0 := by
  funext i
  unfold updI
  by_cases e : i = j
  · subst e; simp
  · rw [if_neg e]
    show (if i ∈ q then 100 + (i : Int) else 0) = _
    by_cases h : i ∈ q
    · rw [if_pos h, if_pos (List.mem_append_left _ h)]
    · rw [if_neg h, if_neg (fun hh => by rcases List.mem_append.1 hh with hh | hh; exact h hh; exact e (by simpa using hh))]
theorem less_in {pend q : List Nat} {n k : Nat} (hk : k < pend.length) (h : ∀ i, i < n → i ∈ pend ∨ i ∈ q) : ∀ i, i < n → i ∈ pend.take k ++ pend.drop (k + 1) ∨ i ∈ q ++ [pend[k]] := by
  intro i hi
  rcases h i hi with h | h
  · have hs : pend = pend.take k ++ pend[k] :: pend.drop (k + 1) := by rw [← List.drop_eq_getElem_cons hk, List.take_append_drop]
    rw [hs] at h
    rcases List.mem_append.1 h with h | h
    · exact .inl (List.mem_append_left _ h)
    · rcases List.mem_cons.1 h with h | h
      · exact .inr (by rw [h]; simp)
      · exact .inl (List.mem_append_right _ h)
  · exact .inr (List.mem_append_left _ h)
theorem less_nodup {pend : List Nat} {n q : Nat} (h : pend.Nodup ∧ ∀ i, i ∈ pend → i < n) : (pend.take q ++ pend.drop (q + 1)).Nodup ∧ ∀ i, i ∈ pend.take q ++ pend.drop (q + 1) → i < n := by
  rw [← List.eraseIdx_eq_take_drop_succ]
  exact ⟨h.1.sublist (List.eraseIdx_sublist pend q), fun i hi => h.2 i ((List.eraseIdx_sublist pend q).subset hi)⟩
theorem begun_turned (ins : List Tr) : (openO ins [] (fun _ => none)).take 2 = turnedT ins [] ∧ (openO ins [] (fun _ => none)).drop 2 = (List.range ins.length).map (eachNd (ndOM ins.length 0) 1) := by
  unfold openO baseO turnedT
  constructor
  · rfl
  · rfl
theorem turned_light {ins : List Tr} {q : List Nat} (h : ∀ t, t ∈ ins → partsT t ≤ 600) (hl : ins.length ≤ 20) : ∀ x, x ∈ turnedT ins q → partsT x.val ≤ 1000000 ∧ x.after.length ≤ 900 := by
  intro x hx
  unfold turnedT at hx
  rcases List.mem_append.1 hx with hx | hx
  · refine open_light (ins := ins) (os := []) (pend := []) h hl (by simp) x ?_
    unfold openO baseO
    refine List.mem_append_left _ ?_
    simpa using hx
  · obtain ⟨y, hy, hx⟩ := List.mem_flatten.1 hx
    obtain ⟨j, -, rfl⟩ := List.mem_map.1 hy
    have hz : partsT zT = 1 := by unfold zT; rw [partsT_node]; rfl
    simp only [tripT, List.mem_cons, List.not_mem_nil, or_false] at hx
    rcases hx with rfl | rfl | rfl
    · obtain ⟨-, -, -, -, a, v⟩ := tx_parts ins.length j
      rw [a, v]
      refine ⟨?_, by simp⟩
      unfold numT; rw [partsT_node]; show 1 + 0 ≤ _; omega
    · exact ⟨by show partsT zT ≤ _; omega, by simp [ndTZ]⟩
    · exact ⟨by show partsT zT ≤ _; omega, by simp [ndTY]⟩
theorem own_k {B n c k : Nat} (h : (Value.slice (some ⟨B, 0, none⟩) n c).ownBlock = some k) : B = k := by simpa [Value.ownBlock] using h
set_option maxRecDepth 100000 in
set_option maxHeartbeats 3200000 in
theorem fanPlaces_any (w : World) (ins0 : List Tr) (v : Value) (hv : LiesS w ins0 v) (ord : List UInt8) (y : Value) (hy : u8E.Row w ord y) (hw : KW w) :
    Calls Tryz.prog 6 #[v, y] w fun e w' => e = .returned (.bool true) ∧ Ext w w' := by
  have HKW := Lib.hid hw
  have HORD := Lib.hid hy
  have HLI := Lib.hid (light_any ins0 w v hv)
  obtain ⟨ay, cy, rfl, hcy1, hcy2⟩ := hy.slice
  obtain ⟨ai, ci, rfl, -⟩ := hv
  clear hy hw
  go_enter Tryz.func6, Tryz.ntmps6
  go_wp2_with fail
  refine HLI.out.mono ?_
  rintro e w1 ⟨hE1, hl⟩
  rcases hl with ⟨-, rfl⟩ | ⟨hlight, a, c, rfl, hL⟩
  · have HE1 := Lib.hid hE1
    have HAW := Lib.hid (awake18_any w1 (HKW.out.ext hE1))
    clear HLI hE1
    go_wp2_with fail
    refine HAW.out.mono ?_
    rintro e w2 ⟨rfl, hE⟩
    have HE := Lib.hid (HE1.out.trans hE)
    clear hE
    go_wp2
    go_ret
    exact ⟨rfl, HE.out⟩
  have HE1 := Lib.hid hE1
  have HINS := Lib.hid hL
  have hlt20 : (ins0.take 20).length ≤ 20 := by rw [List.length_take]; omega
  have HLT := Lib.hid (fun t ht => Nat.le_trans (Nat.le_of_eq (fewT_light 20 t (hlight t ht)).1.symm) (hlight t ht))
  obtain ⟨ins, hins⟩ : ∃ ins, ins = ins0.take 20 := ⟨_, rfl⟩
  rw [← hins] at HINS hlt20 HLT ⊢
  clear hlight hL hE1 HLI hins
  have HOP := Lib.hid (opened_any ins [] (by omega) (by simp) w1 (HKW.out.ext HE1.out) _ (.slice none 0 0) (HINS.out.ext HE1.out) (Elem.Row.void intE w1 none))
  go_wp2_with fail
  refine HOP.out.mono ?_
  rintro e w2 ⟨g, LN, cl, rfl, hE2, hH2⟩
  rw [show ((1 + ([] : List Int).length : Nat) : Int) = 1 from rfl]
  obtain ⟨n, hn⟩ : ∃ n, n = ins.length := ⟨_, rfl⟩
  rw [← hn] at hlt20 ⊢
  have hLN : LN = 2 + n := by
    obtain ⟨a, c, e⟩ := hH2.slice
    rw [openO_len] at e
    injection e with e1 e2 e3
    rw [e2, hn]; simp
  have HN := Lib.hid hn
  have HIN := Lib.hid (show LiesS w ins (.slice a n c) by rw [hn]; exact HINS.out)
  have HE2 := Lib.hid (HE1.out.trans hE2)
  obtain ⟨hcl1, hcl2, AD, xs, ys, hAD, hxl, hyl, hx1, hy1, hxc, hyc, hold, hleft⟩ := hH2.split2 (n := LN) (by rw [openO_len, hLN, hn]; simp) (k := 2) (by omega)
  rw [(begun_turned ins).1] at hold
  rw [(begun_turned ins).2, ← hn] at hleft
  have hs1 := slice_nodeL_upto (some ⟨g, 0, none⟩) LN cl 2 2 rfl (by omega)
  have hs2 := slice_nodeL_from (some ⟨g, 0, none⟩) LN cl 2 2 rfl (by omega)
  rw [hAD, show LN - 2 = n by omega] at hs2
  rw [show LN - 2 = n by omega] at hleft hyl
  obtain ⟨W3, hmk, hwant, hE3⟩ := make_vals n (by omega) w2
  obtain ⟨GW, hGW⟩ : ∃ GW, GW = w2.heap.size := ⟨_, rfl⟩
  rw [← hGW] at hmk
  have HWA := Lib.hid (show WantV 44 w2.heap.size W3 GW n (fun i => if i ∈ ([] : List Nat) then 100 + (i : Int) else 0) by rw [hGW]; simpa using hwant)
  have HGW := Lib.hid hGW
  have HE23 := Lib.hid hE3
  have HOld := Lib.hid hold
  have HLeft := Lib.hid hleft
  have HXC := Lib.hid hxc
  have HYC := Lib.hid hyc
  have HX1 := Lib.hid hx1
  have HY1 := Lib.hid hy1
  have HXL := Lib.hid hxl
  have HYL := Lib.hid hyl
  have HSL1 := Lib.hid hs1
  have HSL2 := Lib.hid hs2
  have HLN := Lib.hid hLN
  have hcl2' : 2 ≤ cl := by omega
  have hLN2 : 2 ≤ LN := by omega
  clear hLN hn hE2 hH2 hAD hxl hyl hx1 hy1 hxc hyc hold hleft hwant hGW hE3 HINS HOP hs1 hs2 hcl1 hcl2
  go_upto_region 6 with (fail)
  clear hmk
  have hs1 := HSL1.out
  have hEa := (Ext.refl W3).alloc (.cells #[] 46)
  have HO3 := Lib.hid (World.ownsRow_lit W3 #[] 0 (base := W3.heap.size) (e := 46) (size := 16) (Nat.le_refl _) (by unfold maxLen; omega) rfl)
  have HSrc := Lib.hid (Src.ofSlice (P := Tryz.prog) (w := W3.alloc (.cells #[] 46)) (size := 16) Tryz.underlying40 ⟨g, 0, none⟩ 2 cl xs HXL.out (fun j u hu => by rw [Addr.add_lit]; exact HXC.out _ (HE23.out.trans hEa) j u hu) HX1.out)
  have HE34 := Lib.hid (HE23.out.trans hEa)
  clear hEa
  go_wp2_with (at_builtin; refine wpList_appAt _ elemnode_F rfl _ _ 40 rfl W3.heap.size (.slice (some ⟨W3.heap.size, 0, none⟩) 0 0) 0 [] rfl HO3.out _ 2 xs rfl HSrc.out (by unfold maxLen; omega) (by omega) (by simp) ?_)
  intro v6 w6 hown6 hgr6 hat6
  replace hgr6 : World.grownBy _ w6 (some W3.heap.size) := hgr6
  obtain ⟨gT, cT, rfl, hgT1, hgT2⟩ := World.ownsRow.form hown6 (by omega)
  have HT6 := Lib.hid ((HOld.out w6 _ W3.heap.size hown6))
  have HE26 := Lib.hid (HE34.out.grown hgr6 (fun k hk => by injection hk with hk; have := HE23.out.size; omega))
  have HWA6 := Lib.hid (((HWA.out.ext ((Ext.refl W3).alloc _)).kept hgr6 (fun e => by injection e with e; have := HWA.out.lt.2; omega)))
  have hgTW : gT ≠ GW := by have := HWA.out.lt.2; omega
  have hW3s : w2.heap.size ≤ W3.heap.size := HE23.out.size
  clear hown6 hgr6 hat6 HO3 HSrc HE34 HE23 HWA hs1 HSL1 HXC HXL HX1 HOld
  go_upto_region 7 with (fail)
  have hs2 := HSL2.out
  have hEa := (Ext.refl w6).alloc (.cells #[] 46)
  have HO3 := Lib.hid (World.ownsRow_lit w6 #[] 0 (base := w6.heap.size) (e := 46) (size := 16) (Nat.le_refl _) (by unfold maxLen; omega) rfl)
  have HSrc := Lib.hid (Src.ofSlice (P := Tryz.prog) (w := w6.alloc (.cells #[] 46)) (size := 16) Tryz.underlying40 AD n (cl - 2) ys HYL.out (fun j u hu => HYC.out _ (HE26.out.trans hEa) j u hu) HY1.out)
  obtain ⟨cl2, hcl2⟩ : ∃ cl2, cl2 = cl - 2 := ⟨_, rfl⟩
  rw [← hcl2] at hs2 HSrc
  have HE27 := Lib.hid (HE26.out.trans hEa)
  clear hEa hcl2
  go_wp2_with (at_builtin; refine wpList_appAt _ elemnode_F rfl _ _ 40 rfl w6.heap.size (.slice (some ⟨w6.heap.size, 0, none⟩) 0 0) 0 [] rfl HO3.out _ n ys rfl HSrc.out (by unfold maxLen; omega) (by omega) (by simp) ?_)
  intro v7 w7 hown7 hgr7 hat7
  replace hgr7 : World.grownBy _ w7 (some w6.heap.size) := hgr7
  obtain ⟨BL, CL, rfl, hBL1, hBL2⟩ : ∃ BL CL, v7 = .slice (some ⟨BL, 0, none⟩) n CL ∧ w6.heap.size ≤ BL ∧ BL < w7.heap.size := by
    rcases hown7.2 with ⟨e, _⟩ | ⟨g', cap', cur, e, b1, b2, -⟩
    · subst e
      rcases hat7 with h | h <;> cases h
    · refine ⟨g', cap', ?_, b1, ?_⟩
      · rw [e]
      · exact (World.ownsRow.lt hown7 g' (by rw [e]; rfl)).2
  have HL7 := Lib.hid (HLeft.out w7 BL w6.heap.size CL (by have := HE26.out.size; omega) (by simpa using hown7))
  have HT7 := Lib.hid ((HT6.out.ext ((Ext.refl w6).alloc _)).kept hgr7 (fun b hb e => by have := own_k hb; injection e with e; omega))
  have HE7 := Lib.hid (HE27.out.grown hgr7 (fun k hk => by injection hk with hk; have := HE26.out.size; omega))
  have HWA7 := Lib.hid ((HWA6.out.ext ((Ext.refl w6).alloc _)).kept hgr7 (fun e => by injection e with e; have := HWA6.out.lt.2; omega))
  have hBT : BL ≠ gT := by omega
  have hBW : BL ≠ GW := by have := HWA6.out.lt.2; omega
  clear hown7 hgr7 hat7 HO3 HSrc HE27 HWA6 hs2 HSL2 HYC HYL HY1 HLeft HE26 HT6
  go_upto_region 8 with (fail)
  go_wp2_with fail
  go_loopw [9, 10, 11] (fun t l k wr => ∃ (kk : Nat) (pend q : List Nat) (gT nT cT B off m C : Nat), k = .int .i64 kk ∧ l = .slice (some ⟨B, off, none⟩) m C ∧ t = .slice (some ⟨gT, 0, none⟩) nT cT ∧ m = pend.length ∧ nT = 2 + 3 * q.length ∧ kk + m = n ∧ B ≠ gT ∧ B ≠ GW ∧ gT ≠ GW ∧
      Hid (pend.Nodup ∧ ∀ i, i ∈ pend → i < n) ∧ Hid (q.length + m = n ∧ (∀ i, i ∈ q → i < n) ∧ ∀ i, i < n → i ∈ pend ∨ i ∈ q) ∧ Hid (Ext w2 wr) ∧ Hid (OldN 46 w2 W3.heap.size wr (.slice (some ⟨gT, 0, none⟩) nT cT) (turnedT ins q)) ∧
      Hid (LeftN w2 wr B off m C (pend.map (eachNd (ndOM n 0) 1))) ∧ Hid (WantV 44 w2.heap.size wr GW n (fun i => if i ∈ q then 100 + (i : Int) else 0))) (fun _ _ k _ => n - (intOf k).toNat)
  case atStart => exact ⟨0, List.range n, [], _, _, _, _, _, _, _, rfl, rfl, rfl, by simp, rfl, by omega, hBT, hBW, hgTW, Lib.hid ⟨List.nodup_range, fun i hi => List.mem_range.1 hi⟩, Lib.hid ⟨by simp, fun i hi => (by cases hi), fun i hi => .inl (List.mem_range.2 hi)⟩, HE7, HT7, HL7, HWA7⟩
  case round =>
    clear HE7 HT7 HL7 HWA7 hBT hBW hgTW hgT1 hgT2 hBL1 hBL2
    obtain ⟨kk, pend, q, gT, nT, cT, B, off, m, C, rfl, rfl, rfl, hmp, hnT, hkm, hBT, hBW, hTW, HP, HQ, HE, HT, HL, HWT⟩ := hrel
    rename World => wr
    by_cases hm0 : m = 0
    case pos =>
      subst hm0
      have hpn : pend = [] := List.eq_nil_of_length_eq_zero hmp.symm
      subst hpn
      have HHd := HT.out.held HE.out hW3s
      have HLg := Lib.hid (turned_light (q := q) HLT.out (by rw [← HN.out]; exact hlt20))
      have HEw := Lib.hid (HE2.out.trans HE.out)
      have hTn : nT = (turnedT ins q).length := by rw [turnedT_len, hnT]
      have hql : q.length = n := by have := HQ.out.1; omega
      have hnT62 : nT ≤ 62 := by omega
      have HTI := Lib.hid (fun (i : Nat) (hi : i < (turnedT ins q).length) (h1 : (turnedT ins q)[i].kind = 2) (h2 : (turnedT ins q)[i].owner = 1) => turned_input ins q (fun j hj => by rw [← HN.out]; exact HQ.out.2.1 j hj) hi h1 h2)
      obtain ⟨wl, hwl⟩ : ∃ wl, wl = (List.range n).map fun (k : Nat) => numT (100 + (k : Int)) := ⟨_, rfl⟩
      have HVal := Lib.hid (show valuesF (turnedT ins q) 1 = some wl by
        rw [turned_values ins q (by rw [hql, HN.out]) (fun k hk => by rcases HQ.out.2.2 k (by rw [HN.out]; exact hk) with h | h; cases h; exact h), hwl, HN.out])
      have HWL := Lib.hid (show LiesS wr wl (.slice (some ⟨GW, 0, none⟩) n n) by
        have h := HWT.out.lies (by omega) (fun j hj => by split <;> (unfold isI64; omega))
        rw [show ((List.range n).map fun (j : Nat) => numT (if j ∈ q then 100 + (j : Int) else 0)) = wl by
          rw [hwl]
          refine List.map_congr_left fun j hj => ?_
          rcases HQ.out.2.2 j (List.mem_range.1 hj) with h | h
          · cases h
          · rw [if_pos h]] at h
        exact h)
      have hwll : wl.length = n := by rw [hwl]; simp
      have HWLl := Lib.hid hwll
      obtain ⟨tl, htl⟩ : ∃ tl, tl = turnedT ins q := ⟨_, rfl⟩
      rw [← htl] at HHd HLg hTn HTI HVal
      have HRW := Lib.hid HHd.row
      have HTN := Lib.hid hTn
      clear hmp hnT hkm hBT hBW hTW HP HQ HT HL HWT HE hwl htl hwll hql HHd hTn
      go_wp2_with fail
      go_loopw [99] (fun i wx => ∃ (jj : Nat), jj ≤ nT ∧ i = .int .i64 jj ∧ Hid (Ext wr wx)) (fun i _ => nT - (intOf i).toNat)
      case atStart => exact ⟨0, by omega, rfl, Lib.hid (Ext.refl _)⟩
      case round =>
        obtain ⟨jj, hjj, rfl, HE⟩ := hrel
        rename World => wx
        by_cases hlt : jj < nT
        case neg =>
          obtain rfl : nT = jj := by omega
          have HV := Lib.hid (fvalues_any tl 1 (by rw [← HTN.out]; omega) (fun x hx => (HLg.out x hx).1) wx _ (HRW.out.ext HE.out))
          clear hlt hjj
          go_wp2_with fail
          refine HV.out.mono ?_
          rintro e w18 ⟨v18, b18, rfl, hE18, hyes, -⟩
          obtain ⟨rfl, ho18⟩ := hyes _ HVal.out
          obtain ⟨d18, rfl, -, -, hl18⟩ := ho18.lies.parts
          obtain ⟨a18, cap18, rfl, -⟩ := id hl18
          have hEa := (Ext.refl w18).alloc (.cells #[.int .u8 ((2 : UInt8).toNat : Int), .int .i64 0, .string (str []), .slice a18 wl.length cap18] 44)
          have HB18 := Lib.hid (Box4.new w18 (.int .u8 ((2 : UInt8).toNat : Int)) (.int .i64 0) (.string (str [])) (.slice a18 wl.length cap18))
          have HV18 := Lib.hid (ho18.ext hEa)
          have HE18r := Lib.hid (HE.out.trans (hE18.trans hEa))
          have HE18 := Lib.hid (HEw.out.trans HE18r.out)
          generalize hx18 : ((2 : UInt8).toNat : Int) = X18 at *
          generalize hy18 : str [] = Y18 at *
          generalize hz18 : wl.length = Z18 at *
          clear hE18 hEa HE hyes ho18 hl18 hx18 hy18 hz18
          go_upto_region 28 with (fail)
          generalize hBV : w18.heap.size = BV at *
          generalize w18.alloc (.cells #[.int .u8 X18, .int .i64 0, .string Y18, .slice a18 Z18 cap18] 44) = w24 at *
          have HS : Hid (∀ wx, Ext w24 wx → wx.cell? ⟨BV, 0, none⟩ = some (.int .u8 X18) ∧ wx.cell? ⟨BV, 1, none⟩ = some (.int .i64 0) ∧ wx.cell? ⟨BV, 2, none⟩ = some (.string Y18) ∧ wx.cell? ⟨BV, 3, none⟩ = some (.slice a18 Z18 cap18)) := Lib.hid (fun wx hx => (HB18.out.ext hx).cells)
          have ED := Lib.hid (Ext.refl w24).drew
          refine wp_region_held_drew (S := (fun w' => w'.cell? ⟨BV, 0, none⟩ = some (.int .u8 X18) ∧ w'.cell? ⟨BV, 1, none⟩ = some (.int .i64 0) ∧ w'.cell? ⟨BV, 2, none⟩ = some (.string Y18) ∧ w'.cell? ⟨BV, 3, none⟩ = some (.slice a18 Z18 cap18))) (by kernel_rfl) ?_ (fun hHeld => ?_)
          · (try dsimp only)
            (first | exact HS.out _ ED.out | exact HS.out _ E1.out | exact HS.out _ E2.out | exact HS.out _ E3.out)
          refine take_w 0 (some 145) (v := ?_) (by kernel_rfl) (by kernel_rfl) (by kernel_rfl) (by kernel_rfl) (by kernel_rfl) (fun _ _ _ h => h) (by rfl) ?_ (by assumption) ?_
          rotate_left
          · (intro w hSw; (try dsimp only at hSw); go_simp; try with_reducible rfl)
          try simp only [Act.put, List.setIfInBounds_toArray, List.set_cons_zero, List.set_cons_succ]
          refine take_w 1 (some 146) (v := ?_) (by kernel_rfl) (by kernel_rfl) (by kernel_rfl) (by kernel_rfl) (by kernel_rfl) (fun _ _ _ h => h) (by rfl) ?_ (by assumption) ?_
          rotate_left
          · (intro w hSw; (try dsimp only at hSw); go_simp; try with_reducible rfl)
          try simp only [Act.put, List.setIfInBounds_toArray, List.set_cons_zero, List.set_cons_succ]
          refine take_w 2 (some 147) (v := ?_) (by kernel_rfl) (by kernel_rfl) (by kernel_rfl) (by kernel_rfl) (by kernel_rfl) (fun _ _ _ h => h) (by rfl) ?_ (by assumption) ?_
          rotate_left
          · (intro w hSw; (try dsimp only at hSw); go_simp; try with_reducible rfl)
          try simp only [Act.put, List.setIfInBounds_toArray, List.set_cons_zero, List.set_cons_succ]
          refine take_w 3 (some 148) (v := ?_) (by kernel_rfl) (by kernel_rfl) (by kernel_rfl) (by kernel_rfl) (by kernel_rfl) (fun _ _ _ h => h) (by rfl) ?_ (by assumption) ?_
          rotate_left
          · (intro w hSw; (try dsimp only at hSw); go_simp; try with_reducible rfl)
          try simp only [Act.put, List.setIfInBounds_toArray, List.set_cons_zero, List.set_cons_succ]
          refine ready_one 4 (by kernel_rfl) (by kernel_rfl) (by rfl) (fun Kc hKc => ?_)
          go_simp
          refine (list18_any _ _ _ _).mono ?_
          rintro e y4 ⟨rfl, hE4⟩
          have E1 := Lib.hid (ED.out.trans hE4)
          have HL4 := Lib.hid (list18_lies (HWL.out.ext (HE18r.out.trans E1.out)))
          clear hE4
          try go_wp2_with fail
          refine hKc.out _ _ ?_ (fun hHeld => ?_)
          · (try dsimp only)
            (first | exact HS.out _ ED.out | exact HS.out _ E1.out | exact HS.out _ E2.out | exact HS.out _ E3.out)
          clear hKc Kc
          try simp only [Act.put, List.setIfInBounds_toArray, List.set_cons_zero, List.set_cons_succ]
          refine ready_one 5 (by kernel_rfl) (by kernel_rfl) (by rfl) (fun Kc hKc => ?_)
          go_simp
          refine (vsame_any (listV wl) (listV wl) _ _ _ (HV18.out.ext E1.out).lies HL4.out).mono ?_
          rintro e y5 ⟨rfl, hE5⟩
          rw [eqT_self]
          have E2 := Lib.hid (E1.out.trans hE5)
          clear hE5
          try go_wp2_with fail
          refine hKc.out _ _ ?_ (fun hHeld => ?_)
          · (try dsimp only)
            (first | exact HS.out _ ED.out | exact HS.out _ E1.out | exact HS.out _ E2.out | exact HS.out _ E3.out)
          clear hKc Kc
          try simp only [Act.put, List.setIfInBounds_toArray, List.set_cons_zero, List.set_cons_succ]
          refine take_w 6 (some 151) (v := ?_) (by kernel_rfl) (by kernel_rfl) (by kernel_rfl) (by kernel_rfl) (by kernel_rfl) (fun _ _ _ h => h) (by rfl) ?_ (by assumption) ?_
          rotate_left
          · (intro w hSw; (try dsimp only at hSw); go_simp; try with_reducible rfl)
          try simp only [Act.put, List.setIfInBounds_toArray, List.set_cons_zero, List.set_cons_succ]
          refine take_w 7 (some 152) (v := ?_) (by kernel_rfl) (by kernel_rfl) (by kernel_rfl) (by kernel_rfl) (by kernel_rfl) (fun _ _ _ h => h) (by rfl) ?_ (by assumption) ?_
          rotate_left
          · (intro w hSw; (try dsimp only at hSw); go_simp; try with_reducible rfl)
          try simp only [Act.put, List.setIfInBounds_toArray, List.set_cons_zero, List.set_cons_succ]
          refine ready_one 8 (by kernel_rfl) (by kernel_rfl) (by rfl) (fun Kc hKc => ?_)
          go_simp
          refine (awake18_any _ (HKW.out.ext (HE18.out.trans E2.out))).mono ?_
          rintro e y6 ⟨rfl, hE6⟩
          have E3 := Lib.hid (E2.out.trans hE6)
          have HE9 := Lib.hid (HE18.out.trans E3.out)
          clear hE6
          try go_wp2_with fail
          refine hKc.out _ _ ?_ (fun hHeld => ?_)
          · (try dsimp only)
            (first | exact HS.out _ ED.out | exact HS.out _ E1.out | exact HS.out _ E2.out | exact HS.out _ E3.out)
          clear hKc Kc
          try simp only [Act.put, List.setIfInBounds_toArray, List.set_cons_zero, List.set_cons_succ]
          refine take_w 9 (some 154) (v := ?_) (by kernel_rfl) (by kernel_rfl) (by kernel_rfl) (by kernel_rfl) (by kernel_rfl) (fun _ _ _ h => h) (by rfl) ?_ (by assumption) ?_
          rotate_left
          · (intro w hSw; (try dsimp only at hSw); go_simp; try with_reducible rfl)
          try simp only [Act.put, List.setIfInBounds_toArray, List.set_cons_zero, List.set_cons_succ]
          refine take_w 10 (some 4) (v := ?_) (by kernel_rfl) (by kernel_rfl) (by kernel_rfl) (by kernel_rfl) (by kernel_rfl) (fun _ _ _ h => h) (by rfl) ?_ (by assumption) ?_
          rotate_left
          · (intro w hSw; (try dsimp only at hSw); go_simp; try with_reducible rfl)
          try simp only [Act.put, List.setIfInBounds_toArray, List.set_cons_zero, List.set_cons_succ]
          refine wpAnyH_done (by kernel_rfl) ?_ _
          go_wp2
          go_ret
          exact ⟨rfl, HE9.out⟩
        have hji : (jj : Int) < (nT : Int) := by omega
        have hjl : jj < tl.length := by rw [← HTN.out]; exact hlt
        obtain ⟨b, off', Cs, aa, ca, k0, n0, s0, a0, m0, c0, heq, hb, hCs, hrg, hnv, hl16, hone, hrow, -⟩ := nd_range HRW.out HE.out jj hjl
        obtain ⟨rfl, rfl⟩ : gT = b ∧ 0 = off' := by injection heq with heq; injection heq with h1 h2; exact ⟨h1, h2⟩
        rw [Nat.zero_add] at hrg
        have HRg := Lib.hid hrg
        have HLn : Hid ((Tryz.prog.info? 46).map (·.size) = some Cs.length) := Lib.hid (by rw [hl16]; exact sizenode_F)
        have HL16 := Lib.hid hl16
        have HN1 := Lib.hid hone
        have HCo : Hid (Cs[2]? = some (.int .u8 (tl[jj].kind.toNat : Int)) ∧ Cs[4]? = some (.int .i64 tl[jj].owner) ∧ Cs[5]? = some (.int .i64 tl[jj].place)) := Lib.hid (by rw [hCs]; exact ⟨rfl, rfl, rfl⟩)
        have HEI := Lib.hid (fun wy (hy : Ext wr wy) => finput_any tl (jj : Int) HLg.out wy _ (HRW.out.ext hy))
        clear heq hb hCs hrg hnv hl16 hone hrow
        go_upto_region 22 with (first | (refine wpList_load_mid rfl _ _ rfl _ _ rfl _ _ HRg.out Tryz.underlying46 rfl HLn.out ?_) | (refine wpList_storeBox rfl _ _ _ rfl _ _ _ _ rfl rfl rfl rfl sizenode_F rfl HL16.out HN1.out ?_))
        have hE1 := (Ext.refl wx).alloc (.cells Cs.toArray 46)
        have hB1 := BoxL.new wx Cs 46
        obtain ⟨XB, hXB⟩ : ∃ XB, XB = wx.heap.size := ⟨_, rfl⟩
        rw [← hXB] at hB1 ⊢
        generalize wx.alloc (.cells Cs.toArray 46) = w22 at *
        have q2 := hB1.cell 2 _ HCo.out.1
        have q4 := hB1.cell 4 _ HCo.out.2.1
        have q5 := hB1.cell 5 _ HCo.out.2.2
        have HB1 := Lib.hid hB1
        have HE22 := Lib.hid (HE.out.trans hE1)
        obtain ⟨K, hK⟩ : ∃ K, K = (tl[jj].kind.toNat : Int) := ⟨_, rfl⟩
        obtain ⟨OW, hOW⟩ : ∃ OW, OW = tl[jj].owner := ⟨_, rfl⟩
        rw [← hK] at q2
        rw [← hOW] at q4
        have hKi : tl[jj].kind = 2 ↔ K = 2 := by
          rw [hK]
          constructor
          · intro h; rw [h]; rfl
          · intro h; exact UInt8.toNat_inj.1 (by show tl[jj].kind.toNat = 2; omega)
        have HKi := Lib.hid hKi
        have HOW := Lib.hid hOW
        clear hXB hE1 hB1 hK hKi hOW HE
        by_cases h2 : K = 2
        case neg =>
          have f2 : (K != 2) = true := by simpa using h2
          clear h2
          go_wp2
          go_roundw
          case rel => exact ⟨jj + 1, by omega, by go_num, HE22⟩
          case measure => simp [intOf]; omega
        have f2 : (K != 2) = false := by simpa using h2
        have HK2 := Lib.hid h2
        clear h2
        by_cases h4 : OW = 1
        case neg =>
          have f4 : (OW != 1) = true := by simpa using h4
          clear h4
          go_wp2
          go_roundw
          case rel => exact ⟨jj + 1, by omega, by go_num, HE22⟩
          case measure => simp [intOf]; omega
        have f4 : (OW != 1) = false := by simpa using h4
        obtain ⟨jv, hjv, hpl, hinp⟩ := HTI.out jj hjl (HKi.out.2 HK2.out) (by rw [← HOW.out]; exact h4)
        have HB5 := Lib.hid (show Cs[5]? = some (.int .i64 (jv : Int)) by rw [← hpl]; exact HCo.out.2.2)
        rw [hpl] at q5
        have HIn := Lib.hid hinp
        clear h4 hpl hinp
        go_upto_region 23 with (fail)
        clear f2 f4 q2 q4
        go_wp2_with fail
        refine (HEI.out _ HE22.out).mono ?_
        rintro e w23 ⟨A4, m4, c4, b4, rfl, hE23, hyes, -⟩
        obtain ⟨rfl, ho4⟩ := hyes _ HIn.out
        obtain ⟨G, rfl, hG1, hG2, hm4, k0, n0, s0, a0, m0, c00, q0, q1, q2, q3, hT⟩ := ownL_at ho4 (i := 0) (by simp)
        obtain rfl : m4 = 1 := by simpa using hm4
        simp only [Nat.zero_mul, Nat.zero_add] at q0 q1 q2 q3
        have hjn : jv < n := by rw [HN.out]; exact hjv
        obtain ⟨bi, oi, k1, n1, s1, a1, m1, c1, rfl, hbi, hci, hLj⟩ := liesS_at HIN.out hjv
        have HT6 : Hid (OwnT 44 w23 w22.heap.size (ins[jv]'hjv) (.agg #[.int .u8 k0, .int .i64 n0, .string s0, .slice a0 m0 c00])) := Lib.hid hT
        have HLj := Lib.hid hLj
        have HE23 := Lib.hid (HE22.out.trans hE23)
        have HEw23 := Lib.hid (HEw.out.trans HE23.out)
        have HS6 : Hid (∀ wx, Ext w23 wx → (wx.cell? ⟨G, 0, none⟩ = some (.int .u8 k0) ∧ wx.cell? ⟨G, 1, none⟩ = some (.int .i64 n0) ∧ wx.cell? ⟨G, 2, none⟩ = some (.string s0) ∧ wx.cell? ⟨G, 3, none⟩ = some (.slice a0 m0 c00) ∧ wx.cell? ⟨bi, oi + jv * 4, none⟩ = some (.int .u8 k1) ∧ wx.cell? ⟨bi, oi + jv * 4 + 1, none⟩ = some (.int .i64 n1) ∧ wx.cell? ⟨bi, oi + jv * 4 + 2, none⟩ = some (.string s1) ∧ wx.cell? ⟨bi, oi + jv * 4 + 3, none⟩ = some (.slice a1 m1 c1) ∧ wx.cell? ⟨XB, 5, none⟩ = some (.int .i64 (jv : Int)))) := Lib.hid (fun wx hx => by
          obtain ⟨r0, r1, r2, r3⟩ := hci wx (HEw23.out.trans hx)
          exact ⟨(hx.cell hG2).trans q0, (hx.cell hG2).trans q1, (hx.cell hG2).trans q2, (hx.cell hG2).trans q3, r0, r1, r2, r3, (HB1.out.ext (hE23.trans hx)).cell 5 _ (HB5.out)⟩)
        have hjn0 : (jv : Int) < (n : Int) := by omega
        clear hyes ho4 hG1 hm4 q0 q1 q2 q3 hT hLj hci HE22 q5
        go_upto_region 24 with (fail)
        have ED := Lib.hid (Ext.refl w23).drew
        refine wp_region_held_drew (S := (fun w' => w'.cell? ⟨G, 0, none⟩ = some (.int .u8 k0) ∧ w'.cell? ⟨G, 1, none⟩ = some (.int .i64 n0) ∧ w'.cell? ⟨G, 2, none⟩ = some (.string s0) ∧ w'.cell? ⟨G, 3, none⟩ = some (.slice a0 m0 c00) ∧ w'.cell? ⟨bi, oi + jv * 4, none⟩ = some (.int .u8 k1) ∧ w'.cell? ⟨bi, oi + jv * 4 + 1, none⟩ = some (.int .i64 n1) ∧ w'.cell? ⟨bi, oi + jv * 4 + 2, none⟩ = some (.string s1) ∧ w'.cell? ⟨bi, oi + jv * 4 + 3, none⟩ = some (.slice a1 m1 c1) ∧ w'.cell? ⟨XB, 5, none⟩ = some (.int .i64 (jv : Int)))) (by kernel_rfl) ?_ (fun hHeld => ?_)
        · (try dsimp only)
          (first | exact HS6.out _ ED.out | exact HS6.out _ E1.out)
        refine take_w 0 (some 119) (v := ?_) (by kernel_rfl) (by kernel_rfl) (by kernel_rfl) (by kernel_rfl) (by kernel_rfl) (fun _ _ _ h => h) (by rfl) ?_ (by assumption) ?_
        rotate_left
        · (intro w hSw; (try dsimp only at hSw); go_simp; try with_reducible rfl)
        try simp only [Act.put, List.setIfInBounds_toArray, List.set_cons_zero, List.set_cons_succ]
        refine take_w 1 (some 120) (v := ?_) (by kernel_rfl) (by kernel_rfl) (by kernel_rfl) (by kernel_rfl) (by kernel_rfl) (fun _ _ _ h => h) (by rfl) ?_ (by assumption) ?_
        rotate_left
        · (intro w hSw; (try dsimp only at hSw); go_simp; try with_reducible rfl)
        try simp only [Act.put, List.setIfInBounds_toArray, List.set_cons_zero, List.set_cons_succ]
        refine take_w 2 (some 121) (v := ?_) (by kernel_rfl) (by kernel_rfl) (by kernel_rfl) (by kernel_rfl) (by kernel_rfl) (fun _ _ _ h => h) (by rfl) ?_ (by assumption) ?_
        rotate_left
        · (intro w hSw; (try dsimp only at hSw); go_simp; try with_reducible rfl)
        try simp only [Act.put, List.setIfInBounds_toArray, List.set_cons_zero, List.set_cons_succ]
        refine take_w 3 (some 122) (v := ?_) (by kernel_rfl) (by kernel_rfl) (by kernel_rfl) (by kernel_rfl) (by kernel_rfl) (fun _ _ _ h => h) (by rfl) ?_ (by assumption) ?_
        rotate_left
        · (intro w hSw; (try dsimp only at hSw); go_simp; try with_reducible rfl)
        try simp only [Act.put, List.setIfInBounds_toArray, List.set_cons_zero, List.set_cons_succ]
        refine take_w 4 (some 123) (v := ?_) (by kernel_rfl) (by kernel_rfl) (by kernel_rfl) (by kernel_rfl) (by kernel_rfl) (fun _ _ _ h => h) (by rfl) ?_ (by assumption) ?_
        rotate_left
        · (intro w hSw; (try dsimp only at hSw); go_simp; try with_reducible rfl)
        try simp only [Act.put, List.setIfInBounds_toArray, List.set_cons_zero, List.set_cons_succ]
        refine take_w 5 (some 124) (v := ?_) (by kernel_rfl) (by kernel_rfl) (by kernel_rfl) (by kernel_rfl) (by kernel_rfl) (fun _ _ _ h => h) (by rfl) ?_ (by assumption) ?_
        rotate_left
        · (intro w hSw; (try dsimp only at hSw); go_simp; try with_reducible rfl)
        try simp only [Act.put, List.setIfInBounds_toArray, List.set_cons_zero, List.set_cons_succ]
        refine take_w 6 (some 125) (v := ?_) (by kernel_rfl) (by kernel_rfl) (by kernel_rfl) (by kernel_rfl) (by kernel_rfl) (fun _ _ _ h => h) (by rfl) ?_ (by assumption) ?_
        rotate_left
        · (intro w hSw; (try dsimp only at hSw); go_simp; try with_reducible rfl)
        try simp only [Act.put, List.setIfInBounds_toArray, List.set_cons_zero, List.set_cons_succ]
        refine take_w 7 (some 126) (v := ?_) (by kernel_rfl) (by kernel_rfl) (by kernel_rfl) (by kernel_rfl) (by kernel_rfl) (fun _ _ _ h => h) (by rfl) ?_ (by assumption) ?_
        rotate_left
        · (intro w hSw; (try dsimp only at hSw); go_simp; try with_reducible rfl)
        try simp only [Act.put, List.setIfInBounds_toArray, List.set_cons_zero, List.set_cons_succ]
        refine take_w 8 (some 127) (v := ?_) (by kernel_rfl) (by kernel_rfl) (by kernel_rfl) (by kernel_rfl) (by kernel_rfl) (fun _ _ _ h => h) (by rfl) ?_ (by assumption) ?_
        rotate_left
        · (intro w hSw; (try dsimp only at hSw); go_simp; try with_reducible rfl)
        try simp only [Act.put, List.setIfInBounds_toArray, List.set_cons_zero, List.set_cons_succ]
        refine take_w 9 (some 128) (v := ?_) (by kernel_rfl) (by kernel_rfl) (by kernel_rfl) (by kernel_rfl) (by kernel_rfl) (fun _ _ _ h => h) (by rfl) ?_ (by assumption) ?_
        rotate_left
        · (intro w hSw; (try dsimp only at hSw); go_simp; try with_reducible rfl)
        try simp only [Act.put, List.setIfInBounds_toArray, List.set_cons_zero, List.set_cons_succ]
        refine take_w 10 (some 129) (v := ?_) (by kernel_rfl) (by kernel_rfl) (by kernel_rfl) (by kernel_rfl) (by kernel_rfl) (fun _ _ _ h => h) (by rfl) ?_ (by assumption) ?_
        rotate_left
        · (intro w hSw; (try dsimp only at hSw); go_simp; try with_reducible rfl)
        try simp only [Act.put, List.setIfInBounds_toArray, List.set_cons_zero, List.set_cons_succ]
        refine take_w 11 (some 130) (v := ?_) (by kernel_rfl) (by kernel_rfl) (by kernel_rfl) (by kernel_rfl) (by kernel_rfl) (fun _ _ _ h => h) (by rfl) ?_ (by assumption) ?_
        rotate_left
        · (intro w hSw; (try dsimp only at hSw); go_simp; try with_reducible rfl)
        try simp only [Act.put, List.setIfInBounds_toArray, List.set_cons_zero, List.set_cons_succ]
        refine take_w 12 (some 131) (v := ?_) (by kernel_rfl) (by kernel_rfl) (by kernel_rfl) (by kernel_rfl) (by kernel_rfl) (fun _ _ _ h => h) (by rfl) ?_ (by assumption) ?_
        rotate_left
        · (intro w hSw; (try dsimp only at hSw); go_simp; try with_reducible rfl)
        try simp only [Act.put, List.setIfInBounds_toArray, List.set_cons_zero, List.set_cons_succ]
        refine take_w 13 (some 132) (v := ?_) (by kernel_rfl) (by kernel_rfl) (by kernel_rfl) (by kernel_rfl) (by kernel_rfl) (fun _ _ _ h => h) (by rfl) ?_ (by assumption) ?_
        rotate_left
        · (intro w hSw; (try dsimp only at hSw); go_simp; try with_reducible rfl)
        try simp only [Act.put, List.setIfInBounds_toArray, List.set_cons_zero, List.set_cons_succ]
        refine take_w 14 (some 133) (v := ?_) (by kernel_rfl) (by kernel_rfl) (by kernel_rfl) (by kernel_rfl) (by kernel_rfl) (fun _ _ _ h => h) (by rfl) ?_ (by assumption) ?_
        rotate_left
        · (intro w hSw; (try dsimp only at hSw); go_simp; try with_reducible rfl)
        try simp only [Act.put, List.setIfInBounds_toArray, List.set_cons_zero, List.set_cons_succ]
        refine take_w 15 (some 134) (v := ?_) (by kernel_rfl) (by kernel_rfl) (by kernel_rfl) (by kernel_rfl) (by kernel_rfl) (fun _ _ _ h => h) (by rfl) ?_ (by assumption) ?_
        rotate_left
        · (intro w hSw; (try dsimp only at hSw); go_simp; try with_reducible rfl)
        try simp only [Act.put, List.setIfInBounds_toArray, List.set_cons_zero, List.set_cons_succ]
        refine ready_one 16 (by kernel_rfl) (by kernel_rfl) (by rfl) (fun Kc hKc => ?_)
        go_simp
        refine (vsame_any (ins[jv]'hjv) (ins[jv]'hjv) _ _ _ (HT6.out.lies.ext ED.out) (HLj.out.ext (HEw23.out.trans ED.out))).mono ?_
        rintro e y1 ⟨rfl, hE4⟩
        rw [eqT_self]
        have E1 := Lib.hid (ED.out.trans hE4)
        clear hE4
        try go_wp2_with fail
        refine hKc.out _ _ ?_ (fun hHeld => ?_)
        · (try dsimp only)
          (first | exact HS6.out _ ED.out | exact HS6.out _ E1.out)
        clear hKc Kc
        try simp only [Act.put, List.setIfInBounds_toArray, List.set_cons_zero, List.set_cons_succ]
        refine take_w 17 (some 136) (v := ?_) (by kernel_rfl) (by kernel_rfl) (by kernel_rfl) (by kernel_rfl) (by kernel_rfl) (fun _ _ _ h => h) (by rfl) ?_ (by assumption) ?_
        rotate_left
        · (intro w hSw; (try dsimp only at hSw); go_simp; try with_reducible rfl)
        try simp only [Act.put, List.setIfInBounds_toArray, List.set_cons_zero, List.set_cons_succ]
        refine take_w 18 (some 137) (v := ?_) (by kernel_rfl) (by kernel_rfl) (by kernel_rfl) (by kernel_rfl) (by kernel_rfl) (fun _ _ _ h => h) (by rfl) ?_ (by assumption) ?_
        rotate_left
        · (intro w hSw; (try dsimp only at hSw); go_simp; try with_reducible rfl)
        try simp only [Act.put, List.setIfInBounds_toArray, List.set_cons_zero, List.set_cons_succ]
        refine wpAnyH_done (by kernel_rfl) ?_ _
        have HE9 := Lib.hid (HE23.out.trans E1.out)
        go_wp2
        go_roundw
        case rel => exact ⟨jj + 1, by omega, by go_num, HE9⟩
        case measure => simp [intOf]; omega
    have hmi : 0 < m := by omega
    have HMP := Lib.hid hmp
    have HNT := Lib.hid hnT
    have hkn : kk + 1 ≤ n := by omega
    have hkm' := Lib.hid hkm
    have hm20 : m ≤ 20 := by omega
    have hnT62 : nT ≤ 62 := by have := HQ.out.1; omega
    clear hmp hnT hkm
    go_upto_region 11 with (fail)
    go_upto_if 56 with (fail)
    go_cut [12] from 53 to 64 (fun p w' => ∃ z : Nat, p = .int .i64 (z : Int) ∧ z < m ∧ w' = wr)
    case first =>
      by_cases hko : kk < ord.length
      case pos =>
        have hrowy := HORD.out
        obtain ⟨by', oy', rfl, hby, o0⟩ := u8_atL hrowy (HE2.out.trans HE.out) kk hko
        obtain ⟨ov, hov⟩ : ∃ ov : UInt8, ov = ord[kk] := ⟨_, rfl⟩
        rw [← hov] at o0
        have hk0 : (0 : Int) ≤ (kk : Int) := by omega
        have hk1 : (kk : Int) < (ord.length : Int) := by omega
        obtain ⟨ai', hai⟩ : ∃ ai', ai' = ov.toNat % m := ⟨_, rfl⟩
        have hai2 : ai' < m := by rw [hai]; exact Nat.mod_lt _ (by omega)
        have hmod : ((wrap64 (ov.toNat : Int)).tmod (m : Int)) = (ai' : Int) := by rw [show wrap64 (ov.toNat : Int) = (ov.toNat : Int) by (have := ov.toNat_lt; unfold wrap64; omega), hai]; rfl
        have hmz : ¬ (m : Int) = 0 := by omega
        clear hov hrowy hai hby
        go_wp2_with fail
        go_meet
        case rel => exact ⟨_, rfl, hai2, rfl⟩
      case neg =>
        have hk1 : ¬ (kk : Int) < (ord.length : Int) := by omega
        go_wp2_with fail
        go_meet
        case rel => exact ⟨0, rfl, by omega, rfl⟩
    case rest =>
    obtain ⟨z, rfl, hzm, hwc⟩ := hcut
    obtain rfl : wr = _ := hwc.symm
    have hzl : z < (pend.map (eachNd (ndOM n 0) 1)).length := by rw [List.length_map]; have := HMP.out; omega
    have hzp : z < pend.length := by have := HMP.out; omega
    obtain ⟨j, hj⟩ : ∃ j, j = pend[z] := ⟨_, rfl⟩
    have hjn : j < n := by rw [hj]; exact HP.out.2 _ (List.getElem_mem _)
    obtain ⟨D, hD16, hD1, hDr, hDv⟩ := HL.out.at HE.out hzl
    rw [List.getElem_map, ← hj] at hDv
    have HJ := Lib.hid hj
    have HL16 := Lib.hid hD16
    have HN1 := Lib.hid hD1
    have HRg := Lib.hid hDr
    have HDV := Lib.hid hDv
    have HLn : Hid ((Tryz.prog.info? 46).map (·.size) = some D.length) := Lib.hid (by rw [hD16]; exact sizenode_F)
    have hBlt : B < wr.heap.size := HL.out.2.2.2.2.1
    have hgTlt := (HT.out.lt gT rfl).2
    have hGWlt := HWT.out.lt.2
    clear hj hD16 hD1 hDr hDv
    go_upto_region 15 with (first | (refine wpList_load_mid rfl _ _ rfl _ _ rfl _ _ HRg.out Tryz.underlying46 rfl HLn.out ?_) | (refine wpList_storeBox rfl _ _ _ rfl _ _ _ _ rfl rfl rfl rfl sizenode_F rfl HL16.out HN1.out ?_))
    have hEX := (Ext.refl wr).alloc (.cells D.toArray 46)
    have hXR := World.ownsRow_lit wr D.toArray 1 (base := wr.heap.size) (e := 46) (size := 16) (Nat.le_refl _) (by unfold maxLen; omega) (by simpa using HL16.out)
    have hXlt : wr.heap.size < (wr.alloc (.cells D.toArray 46)).heap.size := by simp
    obtain ⟨XB, hXB⟩ : ∃ XB, XB = wr.heap.size := ⟨_, rfl⟩
    have hw2r := HE.out.size
    rw [← hXB] at hXR hXlt hBlt hgTlt hGWlt hw2r ⊢
    rw [show D.toArray.toList = D from rfl] at hXR
    have HEX := Lib.hid (HE.out.trans hEX)
    have HTX := Lib.hid (HT.out.ext hEX)
    have HLX := Lib.hid (HL.out.ext hEX)
    have HWX := Lib.hid (HWT.out.ext hEX)
    have HXR := Lib.hid hXR
    clear hXB hEX hXR HT HL HWT HE HRg
    generalize wr.alloc (.cells D.toArray 46) = w15 at *
    obtain ⟨AD, ps, qs, hAD, hpl, hql, hq1, hpc, hqc, hnew⟩ := (HLX.out.ext (Ext.refl w15).drew).parts HEX.out.drew hzl
    have hCm : m ≤ C ∧ C ≤ maxLen := ⟨HLX.out.2.1, HLX.out.2.2.1⟩
    have hs1 := slice_nodeL_full (some ⟨B, off, none⟩) m C z (by omega)
    obtain ⟨z1, hz1⟩ : ∃ z1, z1 = z + 1 := ⟨_, rfl⟩
    have hs2 := slice_nodeL_from (some ⟨B, off, none⟩) m C z1 (z1 : Int) rfl (by omega)
    rw [← hz1] at hAD hql hnew
    rw [hAD] at hs2
    have hw5 : IntKind.i64.wrap ((z : Int) + 1) = (z1 : Int) := by rw [IntWalk.i64_in _ (by omega)]; omega
    obtain ⟨mr, hmr⟩ : ∃ mr, mr = m - z1 := ⟨_, rfl⟩
    obtain ⟨cr, hcr⟩ : ∃ cr, cr = C - z1 := ⟨_, rfl⟩
    rw [← hmr, ← hcr] at hs2
    rw [← hmr] at hql hnew
    have hmr20 : mr ≤ 20 := by omega
    have HPC := Lib.hid hpc
    have HQC := Lib.hid hqc
    have HPL := Lib.hid hpl
    have HQL := Lib.hid hql
    have HQ1 := Lib.hid hq1
    have HNew := Lib.hid hnew
    have HZ1 := Lib.hid hz1
    have HMR := Lib.hid hmr
    clear hpc hqc hpl hql hq1 hnew hAD hcr hmr hz1 hCm
    have ED := Lib.hid (Ext.refl w15).drew
    refine wp_region_held_drew (S := (fun _ => True)) (by kernel_rfl) ?_ (fun hHeld => ?_)
    · (try dsimp only)
      all_goals trivial
    refine take_w 0 (some 69) (v := ?_) (by kernel_rfl) (by kernel_rfl) (by kernel_rfl) (by kernel_rfl) (by kernel_rfl) (fun _ _ _ h => h) (by rfl) ?_ (by assumption) ?_
    rotate_left
    · (intro w hSw; (try dsimp only at hSw); go_simp; try with_reducible rfl)
    try simp only [Act.put, List.setIfInBounds_toArray, List.set_cons_zero, List.set_cons_succ]
    refine take_w 1 (some 70) (v := ?_) (by kernel_rfl) (by kernel_rfl) (by kernel_rfl) (by kernel_rfl) (by kernel_rfl) (fun _ _ _ h => h) (by rfl) ?_ (by assumption) ?_
    rotate_left
    · (intro w hSw; (try dsimp only at hSw); go_simp; try with_reducible rfl)
    try simp only [Act.put, List.setIfInBounds_toArray, List.set_cons_zero, List.set_cons_succ]
    refine take_w 2 (some 71) (v := ?_) (by kernel_rfl) (by kernel_rfl) (by kernel_rfl) (by kernel_rfl) (by kernel_rfl) (fun _ _ _ h => h) (by rfl) ?_ (by assumption) ?_
    rotate_left
    · (intro w hSw; (try dsimp only at hSw); go_simp; try with_reducible rfl)
    try simp only [Act.put, List.setIfInBounds_toArray, List.set_cons_zero, List.set_cons_succ]
    refine take_w 3 (some 72) (v := ?_) (by kernel_rfl) (by kernel_rfl) (by kernel_rfl) (by kernel_rfl) (by kernel_rfl) (fun _ _ _ h => h) (by rfl) ?_ (by assumption) ?_
    rotate_left
    · (intro w hSw; (try dsimp only at hSw); go_simp; try with_reducible rfl)
    try simp only [Act.put, List.setIfInBounds_toArray, List.set_cons_zero, List.set_cons_succ]
    refine take_w 4 (some 73) (v := ?_) (by kernel_rfl) (by kernel_rfl) (by kernel_rfl) (by kernel_rfl) (by kernel_rfl) (fun _ _ _ h => h) (by rfl) ?_ (by assumption) ?_
    rotate_left
    · (intro w hSw; (try dsimp only at hSw); go_simp; try with_reducible rfl)
    try simp only [Act.put, List.setIfInBounds_toArray, List.set_cons_zero, List.set_cons_succ]
    refine take_w 5 (some 74) (v := ?_) (by kernel_rfl) (by kernel_rfl) (by kernel_rfl) (by kernel_rfl) (by kernel_rfl) (fun _ _ _ h => h) (by rfl) ?_ (by assumption) ?_
    rotate_left
    · (intro w hSw; (try dsimp only at hSw); go_simp; try with_reducible rfl)
    try simp only [Act.put, List.setIfInBounds_toArray, List.set_cons_zero, List.set_cons_succ]
    refine take_w 6 (some 75) (v := ?_) (by kernel_rfl) (by kernel_rfl) (by kernel_rfl) (by kernel_rfl) (by kernel_rfl) (fun _ _ _ h => h) (by rfl) ?_ (by assumption) ?_
    rotate_left
    · (intro w hSw; (try dsimp only at hSw); go_simp; try with_reducible rfl)
    try simp only [Act.put, List.setIfInBounds_toArray, List.set_cons_zero, List.set_cons_succ]
    refine take_w 7 (some 76) (v := ?_) (by kernel_rfl) (by kernel_rfl) (by kernel_rfl) (by kernel_rfl) (by kernel_rfl) (fun _ _ _ h => h) (by rfl) ?_ (by assumption) ?_
    rotate_left
    · (intro w hSw; (try dsimp only at hSw); go_simp; try with_reducible rfl)
    try simp only [Act.put, List.setIfInBounds_toArray, List.set_cons_zero, List.set_cons_succ]
    refine ready_one 8 (by kernel_rfl) (by kernel_rfl) (by rfl) (fun Kc hKc => ?_)
    refine wp_appFull (.tmp 72) (.tmp 76) rfl elemnode_F B off z ps rfl HPL.out (HPC.out _ (Ext.refl _)) AD mr cr qs rfl HQL.out (HQC.out _ (Ext.refl _)) HQ1.out (by unfold maxLen; omega) (by omega) ?_
    intro A7 C7 w9 hE9 hc9
    change Kc (Act.put _ (some 77) _) _
    have HE7 := Lib.hid hE9
    have HC7 := Lib.hid hc9
    clear hc9 hE9
    refine hKc.out _ _ ?_ (fun hHeld => ?_)
    · (try dsimp only)
      all_goals trivial
    clear hKc Kc
    try simp only [Act.put, List.setIfInBounds_toArray, List.set_cons_zero, List.set_cons_succ]
    refine take_w 9 (some 10) (v := ?_) (by kernel_rfl) (by kernel_rfl) (by kernel_rfl) (by kernel_rfl) (by kernel_rfl) (fun _ _ _ h => h) (by rfl) ?_ (by assumption) ?_
    rotate_left
    · (intro w hSw; (try dsimp only at hSw); go_simp; try with_reducible rfl)
    try simp only [Act.put, List.setIfInBounds_toArray, List.set_cons_zero, List.set_cons_succ]
    refine wpAnyH_done (by kernel_rfl) ?_ _
    clear hs1 hs2 hw5
    obtain ⟨B', off', rfl, hB7, hL7⟩ := HNew.out w9 A7 C7 46 HE7.out HC7.out
    have hdz : w15.drew.heap.size = w15.heap.size := rfl
    rw [hdz] at hB7
    have hE9 := ED.out.trans HE7.out
    have HE9 := Lib.hid (HEX.out.trans hE9)
    have HT9 := Lib.hid (HTX.out.ext hE9)
    have HW9 := Lib.hid (HWX.out.ext hE9)
    have HX9 := Lib.hid (hE9.own HXR.out)
    have HL9 := Lib.hid hL7
    have hBX : B' ≠ XB := by omega
    have hBT' : B' ≠ gT := by omega
    have hBW' : B' ≠ GW := by omega
    have hX9 : XB < w9.heap.size := by have := hE9.size; omega
    clear HEX HTX HLX HWX HXR HC7 HNew ED HE7 hL7 hE9 HPC HQC HPL HQL HQ1 hdz hB7 hHeld
    have hcx : ∀ p, p < 16 → ∃ u, w9.cell? ⟨XB, p, none⟩ = some u := fun p hp => by
      rw [World.ownsRow.cellAt HX9.out p (by omega)]
      exact ⟨_, List.getElem?_eq_getElem (by rw [HL16.out]; exact hp)⟩
    have q5 : w9.cell? ⟨XB, 5, none⟩ = some (.int .i64 (j : Int)) := by
      rw [World.ownsRow.cellAt HX9.out 5 (by omega), ndV_place5 (HDV.out w9 HE9.out)]; rfl
    go_wp2_with fail
    refine (num18_any (100 + (j : Int)) w9).mono ?_
    rintro e w10 ⟨rfl, hE10⟩
    have HE10 := Lib.hid (HE9.out.trans hE10)
    have HT10 := Lib.hid (HT9.out.ext hE10)
    have HW10 := Lib.hid (HW9.out.ext hE10)
    have HX10 := Lib.hid (hE10.own HX9.out)
    have HL10 := Lib.hid (HL9.out.ext hE10)
    obtain ⟨u9, c9⟩ : ∃ u, w10.cell? ⟨XB, 9, none⟩ = some u := by obtain ⟨u, hu⟩ := hcx 9 (by omega); exact ⟨u, (hE10.cell (p := ⟨XB, 9, none⟩) hX9).trans hu⟩
    obtain ⟨u12, c12⟩ : ∃ u, w10.cell? ⟨XB, 12, none⟩ = some u := by obtain ⟨u, hu⟩ := hcx 12 (by omega); exact ⟨u, (hE10.cell (p := ⟨XB, 12, none⟩) hX9).trans hu⟩
    obtain ⟨u13, c13⟩ : ∃ u, w10.cell? ⟨XB, 13, none⟩ = some u := by obtain ⟨u, hu⟩ := hcx 13 (by omega); exact ⟨u, (hE10.cell (p := ⟨XB, 13, none⟩) hX9).trans hu⟩
    obtain ⟨u14, c14⟩ : ∃ u, w10.cell? ⟨XB, 14, none⟩ = some u := by obtain ⟨u, hu⟩ := hcx 14 (by omega); exact ⟨u, (hE10.cell (p := ⟨XB, 14, none⟩) hX9).trans hu⟩
    obtain ⟨u15, c15⟩ : ∃ u, w10.cell? ⟨XB, 15, none⟩ = some u := by obtain ⟨u, hu⟩ := hcx 15 (by omega); exact ⟨u, (hE10.cell (p := ⟨XB, 15, none⟩) hX9).trans hu⟩
    have f9 := World.ownsRow.frozenAt HX10.out 9
    have f12 := World.ownsRow.frozenAt HX10.out 12
    have f13 := World.ownsRow.frozenAt HX10.out 13
    have f14 := World.ownsRow.frozenAt HX10.out 14
    have f15 := World.ownsRow.frozenAt HX10.out 15
    have hX10 : XB < w10.heap.size := by have := hE10.size; omega
    clear HE9 HT9 HW9 HX9 HL9 hE10 hcx q5 hX9
    go_upto_region 17 with (fail)
    clear c9 c12 c13 c14 c15 f9 f12 f13 f14 f15 u9 u12 u13 u14 u15
    have hgX := ((((setOne_grown w10 XB 9 (.int .u8 4)).trans' (setOne_grown _ XB 12 (.int .u8 0))).trans' (setOne_grown _ XB 13 (.int .i64 (100 + (j : Int))))).trans' (setOne_grown _ XB 14 (.string { data := #[] }))).trans' (setOne_grown _ XB 15 (.slice none 0 0))
    have hXs := (World.ownsRow.stored (World.ownsRow.stored (World.ownsRow.stored (World.ownsRow.stored (World.ownsRow.stored HX10.out 9 (.int .u8 4)).1 12 (.int .u8 0)).1 13 (.int .i64 (100 + (j : Int)))).1 14 (.string { data := #[] })).1 15 (.slice none 0 0)).1
    generalize ((((w10.setCell ⟨XB, 9, none⟩ (.int .u8 4)).setCell ⟨XB, 12, none⟩ (.int .u8 0)).setCell ⟨XB, 13, none⟩ (.int .i64 (100 + (j : Int)))).setCell ⟨XB, 14, none⟩ (.string { data := #[] })).setCell ⟨XB, 15, none⟩ (.slice none 0 0) = w11 at *
    have HX11 : Hid (w11.ownsRow XB 46 16 (.slice (some ⟨XB, 0, none⟩) 1 1) 1 (doneC D (100 + (j : Int)))) := Lib.hid hXs
    have HE11 := Lib.hid (HE10.out.grown hgX (fun k hk => by injection hk with hk; omega))
    have HT11 := Lib.hid (HT10.out.kept hgX (fun b hb e => by have := own_k hb; injection e with e; omega))
    have HW11 := Lib.hid (HW10.out.kept hgX (fun e => by injection e with e; omega))
    have HL11 := Lib.hid (HL10.out.kept hgX (fun e => by injection e with e; omega))
    have hX11 : XB < w11.heap.size := by have := hgX.size; omega
    obtain ⟨d5, d12, d13, d14, d15⟩ := doneC_cells (x := 100 + (j : Int)) HL16.out (ndV_place5 (HDV.out w11 HE11.out))
    have q5 : w11.cell? ⟨XB, 5, none⟩ = some (.int .i64 (j : Int)) := by rw [World.ownsRow.cellAt HX11.out 5 (by omega), d5]; rfl
    have q12 := (World.ownsRow.cellAt HX11.out 12 (by omega)).trans d12
    have q13 := (World.ownsRow.cellAt HX11.out 13 (by omega)).trans d13
    have q14 := (World.ownsRow.cellAt HX11.out 14 (by omega)).trans d14
    have q15 := (World.ownsRow.cellAt HX11.out 15 (by omega)).trans d15
    have ⟨a0, a1, a2, a3⟩ := HW11.out.cells hjn
    have z0 := HW11.out.free (j * 4)
    have z1' := HW11.out.free (j * 4 + 1)
    have z2 := HW11.out.free (j * 4 + 2)
    have z3 := HW11.out.free (j * 4 + 3)
    have hjn' : (j : Int) < (n : Int) := by omega
    clear d5 d12 d13 d14 d15 hgX hXs HE10 HT10 HW10 HL10 HX10
    go_upto_region 18 with (fail)
    clear q5 q12 q13 q14 q15 a0 a1 a2 a3 z0 z1' z2 z3
    obtain ⟨hw12, hg12⟩ := HW11.out.put j (100 + (j : Int))
    rw [fam_more] at hw12
    change Code.wp _ _ _ _ (putNum w11 GW (j * 4) (100 + (j : Int)))
    generalize putNum w11 GW (j * 4) (100 + (j : Int)) = w12 at *
    have HW12 := Lib.hid hw12
    have HE12 := Lib.hid (HE11.out.grown hg12 (fun k hk => by injection hk with hk; have := HW11.out.lt.1; omega))
    have HT12 := Lib.hid (HT11.out.kept hg12 (fun b hb e => by have := own_k hb; injection e with e; omega))
    have HL12 := Lib.hid (HL11.out.kept hg12 (fun e => by injection e with e; omega))
    have HX12 := Lib.hid (World.ownsRow.kept HX11.out hg12 (.inr (fun e => by have := own_k e; omega)))
    obtain ⟨Dn, hDn⟩ : ∃ Dn, Dn = doneC D (100 + (j : Int)) := ⟨_, rfl⟩
    rw [← hDn] at HX12
    obtain ⟨hDn16, hDn1⟩ := doneC_one (x := 100 + (j : Int)) HL16.out HN1.out
    have HDn : Hid (∀ W, Ext w2 W → NdV W (ndTX n j) (.agg Dn.toArray)) := Lib.hid (fun W hW => by rw [hDn]; exact doneC_v (HDV.out W hW) (by omega))
    rw [← hDn] at hDn16 hDn1
    have HRX : Hid (w12.rangeAt XB 0 Dn) := Lib.hid (fun p v hp => by
      rw [Nat.zero_add, World.ownsRow.cellAt HX12.out p (by have := (List.getElem?_eq_some_iff.1 hp).1; omega)]; exact hp)
    have HLn' : Hid ((Tryz.prog.info? 46).map (·.size) = some Dn.length) := Lib.hid (by rw [hDn16]; exact sizenode_F)
    have HD16 := Lib.hid hDn16
    have HD1 := Lib.hid hDn1
    obtain ⟨NS, hNS⟩ : ∃ NS, NS = Dn ++ cellsZ ++ cellsY := ⟨_, rfl⟩
    have hEa := (Ext.refl w12).alloc (.cells NS.toArray 46)
    have HSrc := Lib.hid (Src.block (P := Tryz.prog) (e := 46) Tryz.underlying40 w12 (n := 16) (m := 3) (news := NS) (by rw [hNS, List.length_append, List.length_append, hDn16]; rfl) (fun u hu => by
      rw [hNS] at hu
      rcases List.mem_append.1 hu with hu | hu
      · rcases List.mem_append.1 hu with hu | hu
        · exact hDn1 u hu
        · exact (ndV_one (ndZ_v w12)).2 u hu
      · exact (ndV_one (ndY_v w12)).2 u hu))
    obtain ⟨ts, hts, hmore⟩ := (HT12.out.ext hEa).app
    rw [turnedT_len, ← HNT.out] at hts hmore
    have HTs := Lib.hid hts
    have HNS := Lib.hid hNS
    have HMore := Lib.hid hmore
    have HE13 := Lib.hid (HE12.out.trans hEa)
    have HW13 := Lib.hid (HW12.out.ext hEa)
    have HL13 := Lib.hid (HL12.out.ext hEa)
    have hb3 : W3.heap.size ≤ (w12.alloc (.cells NS.toArray 46)).heap.size := Nat.le_trans (HT12.out.lt gT rfl).1 (Nat.le_trans (Nat.le_of_lt (HT12.out.lt gT rfl).2) hEa.size)
    have hgT13 : gT < w12.heap.size := (HT12.out.lt gT rfl).2
    have hgT0 := (HT12.out.lt gT rfl).1
    have hGW13 := HW12.out.lt
    have hB13 : B' < w12.heap.size := HL12.out.2.2.2.2.1
    clear hw12 hg12 hDn hDn16 hDn1 hts hmore hEa hNS HE12 HT12 HL12 HX12 HW12 HE11 HT11 HW11 HL11 HX11 HDV
    go_wp2_with (first | (refine wpList_load_mid rfl _ _ rfl _ _ rfl _ _ HRX.out Tryz.underlying46 rfl HLn'.out ?_) | (refine wpList_nodes3 (C := Dn) (D := cellsZ) (E := cellsY) rfl (.tmp 91) (.tmp 93) (.tmp 94) rfl rfl rfl rfl HD16.out rfl rfl HNS.out ?_) | (at_builtin; refine wpList_appAt _ elemnode_F rfl _ _ 40 rfl W3.heap.size (.slice (some ⟨gT, 0, none⟩) nT cT) nT ts rfl HTs.out _ 3 NS rfl HSrc.out (by unfold maxLen; omega) (by omega) hb3 ?_))
    intro v14 w14 hown14 hgr14 hat14
    replace hgr14 : World.grownBy _ w14 (some gT) := hgr14
    obtain ⟨gT', cT', rfl, hgA, hgB⟩ := World.ownsRow.form hown14 (by omega)
    have hgT' : gT' = gT ∨ gT' = w12.heap.size + 1 := by
      rcases hat14 with h | h
      · exact .inl (own_k h)
      · exact .inr (own_k h)
    have HT14 := Lib.hid (HMore.out w14 _ [ndTX ins.length j, ndTZ, ndTY] [Dn, cellsZ, cellsY] rfl (by
      rw [show ([Dn, cellsZ, cellsY] : List (List Value)).flatten = NS by rw [HNS.out]; simp]
      exact hown14) (fun i hi hc W hW => by
      rcases i with _ | _ | _ | i
      · rw [← HN.out]; exact HDn.out W hW
      · exact ndZ_v W
      · exact ndY_v W
      · exact absurd hi (by simp)))
    rw [← turnedT_more] at HT14
    have HE14 := Lib.hid (HE13.out.grown hgr14 (fun k hk => by injection hk with hk; omega))
    have HW14 := Lib.hid (HW13.out.kept hgr14 (fun e => by injection e with e; omega))
    have HL14 := Lib.hid (HL13.out.kept hgr14 (fun e => by injection e with e; omega))
    have HPJ := Lib.hid (show pend.take z ++ pend.drop z1 = pend.take z ++ pend.drop (z + 1) by rw [HZ1.out])
    rw [← List.map_take, ← List.map_drop, ← List.map_append] at HL14
    have hz1m : z + mr + 1 = m := by have := HZ1.out; have := HMR.out; omega
    have HP14 : Hid ((pend.take z ++ pend.drop z1).Nodup ∧ ∀ i, i ∈ pend.take z ++ pend.drop z1 → i < n) := Lib.hid (by rw [HPJ.out]; exact less_nodup HP.out)
    have HQ14 : Hid ((q ++ [j]).length + (z + mr) = n ∧ (∀ i, i ∈ q ++ [j] → i < n) ∧ ∀ i, i < n → i ∈ pend.take z ++ pend.drop z1 ∨ i ∈ q ++ [j]) := Lib.hid (by
      refine ⟨by have := HQ.out.1; simp; omega, fun i hi => ?_, ?_⟩
      · rcases List.mem_append.1 hi with h | h
        · exact HQ.out.2.1 i h
        · obtain rfl : i = j := by simpa using h
          exact hjn
      · rw [HPJ.out, HJ.out]; exact less_in hzp HQ.out.2.2)
    have hpl14 : z + mr = (pend.take z ++ pend.drop z1).length := by rw [List.length_append, List.length_take, List.length_drop]; have := HMP.out; have := HZ1.out; have := HMR.out; omega
    have hnt14 : nT + 3 = 2 + 3 * (q ++ [j]).length := by have := HNT.out; simp; omega
    have hb1 : B' ≠ gT' := by omega
    have hb2 : gT' ≠ GW := by omega
    clear hown14 hgr14 hat14 HE13 HW13 HL13 HTs HMore HSrc HDn HRX hgT' hgA hgB
    go_wp2
    go_roundw
    case rel => exact ⟨kk + 1, pend.take z ++ pend.drop z1, q ++ [j], gT', nT + 3, cT', B', off', z + mr, C7, by go_num, rfl, rfl, hpl14, hnt14, by have := hkm'.out; omega, hb1, hBW', hb2, HP14, HQ14, HE14, HT14, HL14, HW14⟩
    case measure => simp [intOf]; omega
end Go.Proofs.YtpcgpcjleedilaaGreatDoor

namespace Fm
open Go Go.RowKit Go.ChangeShapes Go.WideShapes Go.ChangeAt

/-- What the reading of a slice of integers says: as the guide's skeleton has it. -/
def IsRow (k : IntKind) (w : World) (a : Option Addr) (len cap : Nat) (zs : List Int) : Prop :=
  (a = none ∧ len = 0 ∧ cap = 0 ∧ zs = []) ∨
  ∃ x, a = some x ∧ len ≤ cap ∧ cap ≤ maxLen ∧ zs.length = cap ∧ (∀ i, i < zs.length → w.cell? (x.add i) = some (.int k (zs.getD i 0))) ∧ ∀ n ∈ zs, (Lit.int k n).wf = true

theorem u8_of_wf {n : Int} (h : (Lit.int .u8 n).wf = true) : ((UInt8.ofNat n.toNat).toNat : Int) = n := by
  have : 0 ≤ n ∧ n ≤ 255 := by
    simp [Lit.wf, IntKind.min, IntKind.max, IntKind.signed, IntKind.bits] at h
    omega
  rw [toNat_ofNat_lt (by omega)]; omega

theorem i64_of_wf {n : Int} (h : (Lit.int .i64 n).wf = true) : isI64 n := by
  simp [Lit.wf, IntKind.min, IntKind.max, IntKind.signed, IntKind.bits] at h
  unfold isI64; omega

theorem IsRow.bytes {w : World} {a : Option Addr} {len cap : Nat} {zs : List Int} (h : IsRow .u8 w a len cap zs) :
    ∃ xs : List UInt8, xs.length = len ∧ Bytes w (.slice a len cap) xs := by
  rcases h with ⟨rfl, rfl, rfl, rfl⟩ | ⟨x, rfl, hl, hm, hz, hc, hw⟩
  · exact ⟨[], rfl, Bytes.nil w⟩
  · refine ⟨(zs.take len).map fun n => UInt8.ofNat n.toNat, by simp; omega, ?_⟩
    have hlen : ((zs.take len).map fun n => UInt8.ofNat n.toNat).length = len := by simp; omega
    refine ⟨some x, cap, by rw [hlen], by omega, hm, (fun h => by cases h), fun ad had h0 => ?_⟩
    cases had
    have h00 := hc 0 (by omega)
    have e0 : x.add 0 = x := by unfold Addr.add; rw [if_pos rfl]
    rw [e0] at h00
    have hs : x.spot = none := by
      cases hsp : x.spot with
      | none => rfl
      | some s =>
        unfold World.cell? at h00
        cases hb : w.heap[x.block]? with
        | none => rw [hb] at h00; cases h00
        | some o => rw [hb] at h00; cases o <;> simp [hsp] at h00
    refine ⟨hs, World.block_lt_of_cell? w x h00, fun j hj => ?_⟩
    have hj' : j < zs.length := by omega
    have hjl : j < len := by omega
    have hcj := hc j hj'
    have ea : x.add j = ⟨x.block, x.off + j, none⟩ := by
      unfold Addr.add; split
      · obtain ⟨b, o, s⟩ := x; simp at hs ⊢; exact ⟨by omega, hs⟩
      · rw [← hs]
    rw [ea] at hcj
    rw [hcj]
    have hg : zs.getD j 0 = zs[j] := by simp [List.getD, hj']
    have hwf := hw zs[j] (List.getElem_mem hj')
    rw [hg]
    simp [bv, hjl, hj']
    have := u8_of_wf hwf
    simp at this
    exact this.symm
end Fm

open Go.RowKit Go.Shelf
namespace Go.Proofs.YtpcgpcjleedilaaGreatDoor
open Go Go.Proofs Fm

theorem errAt_of {W : World} {n : String} {g g' : Nat} {t : TypeId} {cs : Array Value} {f : Nat} {nm : String} {d : DataW Unit} {p : List MemPlace} (hn : Tryz.prog.globalNamed n = some g') (hty : (Tryz.prog.globals[g']?).map (·.type) = some 92)
    (hg : Tryz.prog.globalNamed n = some g) (ht : (Tryz.prog.globals[g]?).map (·.type) = some t) (hv : W.var? Tryz.prog n = some cs) (hd : DataW.trod (fun _ => ()) Tryz.prog W 0 (fun _ => true) false f t cs.toList = some (.iface nm d, p)) : ErrAt W g' := by
  obtain rfl := Option.some.inj (hn.symm.trans hg)
  obtain rfl := Option.some.inj (hty.symm.trans ht)
  obtain ⟨l⟩ := cs
  obtain ⟨f1, u, v, e, _, _⟩ := iface_of_trod Tryz.underlying92 hd
  subst e
  exact ⟨_, by simpa using World.var?_cell hg hv 0, .inr ⟨u, v, rfl⟩⟩
theorem kw_of {W : World} {g1 g2 g3 : Nat} {t1 t2 t3 : TypeId} {c1 c2 c3 : Array Value} {f1 f2 f3 : Nat} {nm2 nm3 : String} {d2 d3 : DataW Unit} {p1 p2 p3 : List MemPlace}
    (hg1 : Tryz.prog.globalNamed "internal/strconv.uint64pow10" = some g1) (ht1 : (Tryz.prog.globals[g1]?).map (·.type) = some t1) (hv1 : W.var? Tryz.prog "internal/strconv.uint64pow10" = some c1) (hd1 : DataW.trod (fun _ => ()) Tryz.prog W 0 (fun _ => true) false f1 t1 c1.toList = some (Lib.tabData .u64 Lib.pow10Tab, p1))
    (hg2 : Tryz.prog.globalNamed "strconv.ErrSyntax" = some g2) (ht2 : (Tryz.prog.globals[g2]?).map (·.type) = some t2) (hv2 : W.var? Tryz.prog "strconv.ErrSyntax" = some c2) (hd2 : DataW.trod (fun _ => ()) Tryz.prog W 0 (fun _ => true) false f2 t2 c2.toList = some (.iface nm2 d2, p2))
    (hg3 : Tryz.prog.globalNamed "strconv.ErrRange" = some g3) (ht3 : (Tryz.prog.globals[g3]?).map (·.type) = some t3) (hv3 : W.var? Tryz.prog "strconv.ErrRange" = some c3) (hd3 : DataW.trod (fun _ => ()) Tryz.prog W 0 (fun _ => true) false f3 t3 c3.toList = some (.iface nm3 d3, p3)) : KW W := by
  refine ⟨?_, errAt_of (by kernel_rfl) (by kernel_rfl) hg2 ht2 hv2 hd2, errAt_of (by kernel_rfl) (by kernel_rfl) hg3 ht3 hv3 hd3⟩
  have hg : Tryz.prog.globalNamed "internal/strconv.uint64pow10" = some 5 := by kernel_rfl
  have hty : (Tryz.prog.globals[5]?).map (·.type) = some 168 := by kernel_rfl
  obtain rfl := Option.some.inj (hg.symm.trans hg1)
  obtain rfl := Option.some.inj (hty.symm.trans ht1)
  unfold Tab Lib.TabIs
  rw [hv1]
  congr 1
  have h := Lib.cells_of_tab Tryz.underlying168 Tryz.underlying148 (by kernel_rfl) (by kernel_rfl) hd1
  rw [← h]
end Go.Proofs.YtpcgpcjleedilaaGreatDoor

namespace Fm
open Go Go.RowKit Go.ChangeShapes Go.WideShapes Go.ChangeAt

/-- What reads as data of that type lies so. -/
def Elem.Reads {α : Type} (E : Elem α) (P : Program) (T : TypeId) : Prop :=
  ∀ {H : Type} (enc : TypeId × Value → H) (W : World) (base : Nat) (spare : Nat → Bool) (held : Bool) (fuel : Nat) (cs : List Value) (x : DataW H × List MemPlace),
    DataW.trod enc P W base spare held fuel T cs = some x → ∃ a : α, E.R W a (fun j => cs.getD j .nilFunc)
theorem reads_u8 {P : Program} {T : TypeId} (hT : P.underlying T = some (.int .u8)) : u8E.Reads P T := by
  intro H enc W base spare held fuel cs x h
  obtain ⟨n, rfl, -, hw⟩ := DataW.trod_int hT h
  exact ⟨UInt8.ofNat n.toNat, by show Value.int _ _ = _; rw [u8_of_wf hw]⟩
theorem reads_slice {α : Type} {E : Elem α} {P : Program} {T e : TypeId} (hT : P.underlying T = some (.slice e)) (hsz : P.cellsOf e = E.sz) (hE : E.Reads P e) (hp : 0 < E.sz) : (rowE E).Reads P T := by
  intro H enc W base spare held fuel cs x h
  rcases DataW.trod_slice hT h with ⟨rfl, -⟩ | ⟨a, len, cap, elems, rest, m, hm, rfl, -, hba, hlc, hcm, hel, hat, -, -⟩
  · exact ⟨[], Elem.Row.void E W none⟩
  · have key : ∀ k, k ≤ len → ∃ l : List α, l.length = k ∧ ∀ i (hi : i < l.length), ∃ c : Nat → Value, E.R W l[i] c ∧ ∀ j, j < E.sz → W.cell? ((a.add (i * E.sz)).add j) = some (c j) := by
      intro k
      induction k with
      | zero => exact fun _ => ⟨[], rfl, fun i hi => by simp at hi⟩
      | succ k ih =>
        intro hk
        obtain ⟨l, hl, hr⟩ := ih (by omega)
        have h1 := hat k (by omega)
        rw [hsz, List.getElem?_eq_getElem (by omega)] at h1
        obtain ⟨cs', hc', ht'⟩ := Option.bind_eq_some_iff.1 h1
        obtain ⟨t, ht⟩ := hE enc W base spare held m cs' _ ht'
        obtain ⟨_, hl4, hcell⟩ := World.cells?_some hc'
        refine ⟨l ++ [t], by simp [hl], fun i hi => ?_⟩
        by_cases hik : i < l.length
        · rw [List.getElem_append_left hik]; exact hr i hik
        · have e : i = l.length := by simp at hi; omega
          subst e
          rw [List.getElem_append_right (by omega)]
          simp only [Nat.sub_self, List.getElem_cons_zero]
          refine ⟨_, ht, fun j hj => ?_⟩
          rw [hl, hcell j hj, List.getD_eq_getElem?_getD, List.getElem?_eq_getElem (by omega)]
          rfl
    obtain ⟨l, hl, hr⟩ := key len (Nat.le_refl _)
    refine ⟨l, ?_⟩
    show E.Row W l (.slice (some a) len cap)
    by_cases h0 : len = 0
    · have : l = [] := List.eq_nil_of_length_eq_zero (by omega)
      subst this h0
      exact ⟨some a, cap, rfl, by simp, hcm, (fun h => by cases h), fun _ _ => .nilFunc, fun h => by simp at h, fun i hi => by simp at hi⟩
    · obtain ⟨c, _, h00⟩ := hr 0 (by omega)
      have h00 := h00 0 hp
      rw [Nat.zero_mul] at h00
      have ea : (a.add 0).add 0 = a := by unfold Addr.add; rw [if_pos rfl, if_pos rfl]
      rw [ea] at h00
      have hs0 : a.spot = none := by
        cases hsp : a.spot with
        | none => rfl
        | some s =>
          unfold World.cell? at h00
          cases hb : W.heap[a.block]? with
          | none => rw [hb] at h00; cases h00
          | some o => rw [hb] at h00; cases o <;> simp [hsp] at h00
      obtain ⟨b, off, spot⟩ := a
      simp only at hs0
      subst hs0
      refine Elem.Row.mk hl.symm (by omega) hcm (World.block_lt_of_cell? W _ h00) (fun i hi => ?_)
      obtain ⟨c, h1, h2⟩ := hr i hi
      refine ⟨c, h1, fun j hj => ?_⟩
      have := h2 j hj
      rw [Addr.add_lit, Addr.add_lit, Nat.add_assoc] at this
      exact this
/-- A slice that is handed in. -/
theorem row_of_val {α : Type} {E : Elem α} {P : Program} {T e : TypeId} (hT : P.underlying T = some (.slice e)) (hR : (rowE E).Reads P T)
    {H : Type} {enc : TypeId × Value → H} {W : World} {r : Reach} {b0 base : Nat} {spare : Nat → Bool} {held : Bool} {v : Value} {d : DataW H} {p : List MemPlace} (hv : Value.okWide P W r b0 T v)
    (h : DataW.Trod enc P W base spare held T v d p) : ∃ l, E.Row W l v := by
  obtain ⟨b, n, c, rfl⟩ := okWide_slice hT hv
  obtain ⟨fuel, hf⟩ := h
  obtain ⟨l, hl⟩ := hR enc W base spare held fuel _ _ hf
  exact ⟨l, hl⟩
end Fm

namespace Go.Proofs.YtpcgpcjleedilaaGreatDoor
open Go Go.Proofs Fm Go.RowKit Go.ChangeShapes Go.WideShapes Go.ChangeAt

set_option maxRecDepth 100000 in
theorem fields4 : Tryz.prog.underlying 44 = some (.struct #[⟨"Kind", 5, 0, false, "", "", 0⟩, ⟨"N", 2, 1, false, "", "", 8⟩, ⟨"S", 9, 2, false, "", "", 16⟩, ⟨"L", 42, 3, false, "", "", 32⟩]) := by kernel_rfl
theorem cells25 : Tryz.prog.cellsOf 44 = 4 := by kernel_rfl

set_option maxRecDepth 100000 in
theorem lies_of_trod {H : Type} {enc : TypeId × Value → H} {W : World} {base : Nat} {spare : Nat → Bool} {held : Bool} : ∀ (fuel : Nat) (cs : List Value) (x : DataW H × List MemPlace),
    DataW.trod enc Tryz.prog W base spare held fuel 44 cs = some x → ∃ (t : Tr), Lies W t (.agg cs.toArray) := by
  intro fuel
  induction fuel using Nat.strongRecOn with
  | _ fuel ih =>
  intro cs x h
  obtain ⟨xs, n, hfuel, hx, hlen, hxs, hf⟩ := DataW.trod_struct fields4 h
  rw [cells25] at hlen
  match cs, hlen with
  | [v0, v1, v2, v3], _ =>
  have g0 : DataW.trod enc Tryz.prog W base spare held n 5 (([v0, v1, v2, v3].drop 0).take (Tryz.prog.cellsOf 5)) = xs[0]? := hf 0 _ rfl
  have g1 : DataW.trod enc Tryz.prog W base spare held n 2 (([v0, v1, v2, v3].drop 1).take (Tryz.prog.cellsOf 2)) = xs[1]? := hf 1 _ rfl
  have g2 : DataW.trod enc Tryz.prog W base spare held n 9 (([v0, v1, v2, v3].drop 2).take (Tryz.prog.cellsOf 9)) = xs[2]? := hf 2 _ rfl
  have g3 : DataW.trod enc Tryz.prog W base spare held n 42 (([v0, v1, v2, v3].drop 3).take (Tryz.prog.cellsOf 42)) = xs[3]? := hf 3 _ rfl
  have k5 : Tryz.prog.cellsOf 5 = 1 := by kernel_rfl
  have k2 : Tryz.prog.cellsOf 2 = 1 := by kernel_rfl
  have k9 : Tryz.prog.cellsOf 9 = 1 := by kernel_rfl
  have k23 : Tryz.prog.cellsOf 42 = 1 := by kernel_rfl
  rw [k5] at g0
  rw [k2] at g1
  rw [k9] at g2
  rw [k23] at g3
  match xs, hxs with
  | [y0, y1, y2, y3], _ =>
  obtain ⟨n0, e0, -, w0⟩ := DataW.trod_int Tryz.underlying5 (show DataW.trod enc Tryz.prog W base spare held n 5 [v0] = some y0 from g0)
  obtain ⟨n1, e1, -, w1⟩ := DataW.trod_int Tryz.underlying2 (show DataW.trod enc Tryz.prog W base spare held n 2 [v1] = some y1 from g1)
  obtain ⟨s2, e2, -, w2⟩ := DataW.trod_string Tryz.underlying9 (show DataW.trod enc Tryz.prog W base spare held n 9 [v2] = some y2 from g2)
  injection e0 with e0 _
  injection e1 with e1 _
  injection e2 with e2 _
  subst e0 e1 e2
  have hs : s2.data.toList.length ≤ 9223372036854775807 := by
    have e : s2.data.toList.length = s2.size := by rw [Array.length_toList]; rfl
    unfold maxLen at w2; omega
  have hk := u8_of_wf w0
  have hstr : str s2.data.toList = s2 := str_eta s2
  rcases DataW.trod_slice Tryz.underlying42 (show DataW.trod enc Tryz.prog W base spare held n 42 [v3] = some y3 from g3) with ⟨e3, -⟩ | ⟨a, len, cap, elems, rest, m, hm, e3, -, hba, hlc, hcm, hel, hat, -, -⟩
  · injection e3 with e3 _
    subst e3
    have := Lies.mk (w := W) (k := UInt8.ofNat n0.toNat) (i64_of_wf w1) hs (LiesS.nil W none)
    rw [hk, hstr] at this
    exact ⟨_, this⟩
  · injection e3 with e3 _
    subst e3
    have hch : ∀ i, ∃ (t : Tr) (C : Nat → Value), i < len → W.cells? base (a.add (i * 4)) 4 = some [C 0, C 1, C 2, C 3] ∧ Lies W t (.agg #[C 0, C 1, C 2, C 3]) := by
      intro i
      by_cases hi : i < len
      · have h1 := hat i hi
        rw [cells25] at h1
        rw [List.getElem?_eq_getElem (by omega)] at h1
        obtain ⟨cs', hc', ht'⟩ := Option.bind_eq_some_iff.1 h1
        obtain ⟨t, ht⟩ := ih m (by omega) cs' _ ht'
        obtain ⟨_, hl4, _⟩ := World.cells?_some hc'
        match cs', hl4 with
        | [z0, z1, z2, z3], _ =>
          exact ⟨t, fun j => match j with | 0 => z0 | 1 => z1 | 2 => z2 | _ => z3, fun _ => ⟨hc', ht⟩⟩
      · exact ⟨.node 0 0 [] [], fun _ => .nilFunc, fun h => absurd h hi⟩
    let T : Nat → Tr := fun i => Classical.choose (hch i)
    have hT : ∀ i, ∃ C : Nat → Value, i < len → W.cells? base (a.add (i * 4)) 4 = some [C 0, C 1, C 2, C 3] ∧ Lies W (T i) (.agg #[C 0, C 1, C 2, C 3]) := fun i => Classical.choose_spec (hch i)
    let C : Nat → Nat → Value := fun i => Classical.choose (hT i)
    have hC : ∀ i, i < len → W.cells? base (a.add (i * 4)) 4 = some [C i 0, C i 1, C i 2, C i 3] ∧ Lies W (T i) (.agg #[C i 0, C i 1, C i 2, C i 3]) := fun i => Classical.choose_spec (hT i)
    have hlT : ((List.range len).map T).length = len := by simp
    have hL : LiesS W ((List.range len).map T) (.slice (some a) len cap) := by
      refine ⟨some a, cap, by rw [hlT], by rw [hlT]; exact hlc, hcm, (fun h => by cases h), C, fun hp => ?_, fun i hi => ?_⟩
      · rw [hlT] at hp
        have h00 := (World.cells?_some (hC 0 hp).1).2.2 0 (by omega)
        rw [Nat.zero_mul] at h00
        have ea : (a.add 0).add 0 = a := by unfold Addr.add; rw [if_pos rfl, if_pos rfl]
        rw [ea] at h00
        have hs0 : a.spot = none := by
          cases hsp : a.spot with
          | none => rfl
          | some s =>
            unfold World.cell? at h00
            cases hb : W.heap[a.block]? with
            | none => rw [hb] at h00; cases h00
            | some o => rw [hb] at h00; cases o <;> simp [hsp] at h00
        obtain ⟨b, off, spot⟩ := a
        simp only at hs0
        subst hs0
        refine ⟨b, off, rfl, World.block_lt_of_cell? W _ h00, fun i j hi hj => ?_⟩
        rw [hlT] at hi
        have h1 := (World.cells?_some (hC i hi).1).2.2 j hj
        rw [Addr.add_lit, Addr.add_lit, Nat.add_assoc] at h1
        rw [h1]
        match j, hj with
        | 0, _ => rfl
        | 1, _ => rfl
        | 2, _ => rfl
        | 3, _ => rfl
      · rw [hlT] at hi
        have := (hC i hi).2
        simpa using this
    have := Lies.mk (w := W) (k := UInt8.ofNat n0.toNat) (i64_of_wf w1) hs hL
    rw [hk, hstr] at this
    exact ⟨_, this⟩

end Go.Proofs.YtpcgpcjleedilaaGreatDoor

namespace Fm
open Go Go.RowKit
/-- Values as a row's elements. -/
def trE : Elem Tr where
  sz := 4
  R w t c := Lies w t (.agg #[c 0, c 1, c 2, c 3])
  ext hx h := h.ext hx
  loc hc h := by rw [← hc 0 (by omega), ← hc 1 (by omega), ← hc 2 (by omega), ← hc 3 (by omega)]; exact h
end Fm
namespace Go.Proofs.YtpcgpcjleedilaaGreatDoor
open Go Go.Proofs Fm Go.RowKit Go.ChangeShapes Go.WideShapes Go.ChangeAt
theorem cells_u8N : Tryz.prog.cellsOf 5 = 1 := by kernel_rfl
theorem reads_u8sN : (rowE u8E).Reads Tryz.prog 66 := reads_slice Tryz.underlying66 cells_u8N (reads_u8 Tryz.underlying5) (by decide)
theorem reads_trN : trE.Reads Tryz.prog 44 := by
  intro H enc W base spare held fuel cs x h
  obtain ⟨t, ht⟩ := lies_of_trod fuel cs x h
  obtain ⟨k, n, s, l⟩ := t
  obtain ⟨d, e, -⟩ := ht.parts
  injection e with e
  have e2 : cs = [.int .u8 (k.toNat : Int), .int .i64 n, .string (str s), d] := by simpa using congrArg Array.toList e
  subst e2
  exact ⟨_, ht⟩
theorem reads_valsN : (rowE trE).Reads Tryz.prog 42 := reads_slice Tryz.underlying42 cells25 reads_trN (by decide)
end Go.Proofs.YtpcgpcjleedilaaGreatDoor
