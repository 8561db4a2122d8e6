/- The reference of states: Parse. -/
import Derived.Test.YtdienbcjfljjnaaGreatDoorSnRd
import Derived.Test.YtdienbcjfljjnaaGreatDoorSnK
open Go.RowKit Go.Shelf
namespace Fm
open Go Go.RowKit
theorem rnd_val {xs r : List UInt8} {n : Nd} (h : rnd xs = some (n, r)) : rightT n.val = true := by
  unfold rnd at h
  obtain ⟨⟨i, r1⟩, h1, h⟩ := Option.bind_eq_some_iff.1 h
  simp only at h
  obtain ⟨⟨nm, r2⟩, h2, h⟩ := Option.bind_eq_some_iff.1 h
  simp only at h
  obtain ⟨⟨c, r3⟩, h3, h⟩ := Option.bind_eq_some_iff.1 h
  simp only at h
  split at h
  · cases h
  obtain ⟨⟨d, r4⟩, h4, h⟩ := Option.bind_eq_some_iff.1 h
  simp only at h
  obtain ⟨⟨e, r5⟩, h5, h⟩ := Option.bind_eq_some_iff.1 h
  simp only at h
  split at h
  · cases h
  obtain ⟨⟨v, r6⟩, h6, h⟩ := Option.bind_eq_some_iff.1 h
  simp only [Option.some.injEq, Prod.mk.injEq] at h
  obtain ⟨hn, rfl⟩ := h
  subst hn
  exact (takeV_inv h6).2.1
theorem rnds_inv {j : Nat} {xs r : List UInt8} {l : List Nd} (h : readM rnd j xs = some (l, r)) : l.length = j ∧ (∀ n, n ∈ l → rightT n.val = true) ∧ ∀ n, n ∈ l → ndWf n := by
  obtain ⟨h1, h2, h3⟩ := readM_inv rnd ndBy (fun n => rightT n.val = true ∧ ndWf n) (fun xs x r h => ⟨(rnd_inv h).1, rnd_val h, (rnd_inv h).2⟩) j xs l r h
  exact ⟨h1, fun n hn => (h3 n hn).1, fun n hn => (h3 n hn).2⟩
theorem right_parts {t : Tr} (h : rightT t = true) : partsT t ≤ 1000000 ∧ deepT t ≤ 1000000 := by
  unfold rightT at h
  simp only [Bool.and_eq_true, decide_eq_true_eq] at h
  omega
theorem rsn_dead {xs : List UInt8} (h : readM hdN 8 xs = none) : parseS xs = none := by
  rw [← rsn_eq]; unfold rsn; rw [h]; rfl
theorem rsn_many {xs r : List UInt8} {h0 h1 h2 h3 h4 h5 h6 h7 : Int} (h : readM hdN 8 xs = some ([h0, h1, h2, h3, h4, h5, h6, h7], r)) (hb : h7 < 0 ∨ 4800 < h7) : parseS xs = none := by
  rw [← rsn_eq]; unfold rsn; rw [h, Option.bind_some]
  simp only [List.getD_cons_zero, List.getD_cons_succ]
  rw [if_pos hb]
theorem rsn_go {xs r : List UInt8} {h0 h1 h2 h3 h4 h5 h6 : Int} {M : Nat} (h : readM hdN 8 xs = some ([h0, h1, h2, h3, h4, h5, h6, (M : Int)], r)) (hb : M ≤ 4800) : parseS xs = (readM rnd M r).bind fun d =>
    if d.2 = [] ∧ snB ⟨h0, h1, h2, h3, h4, h5, d.1, h6⟩ = true then some ⟨h0, h1, h2, h3, h4, h5, d.1, h6⟩ else none := by
  rw [← rsn_eq]; unfold rsn; rw [h, Option.bind_some]
  simp only [List.getD_cons_zero, List.getD_cons_succ]
  rw [if_neg (by omega), Int.toNat_natCast]
  rfl
end Fm
namespace Go.Proofs.YtdienbcjfljjnaaGreatDoor
open Go Go.Proofs Fm

theorem elemnodeR : ElemOf Tryz.prog 24 59 (.agg #[.string { data := #[] }, .string { data := #[] }, .int .u8 0, .int .i64 0, .int .i64 0, .int .i64 0, .slice none 0 0, .int .i64 0, .int .i64 0, .int .u8 0, .int .i64 0, .int .i64 0, .int .u8 0, .int .i64 0, .string { data := #[] }, .slice none 0 0]) 16 184 :=
  ⟨Tryz.underlying24, by kernel_rfl, rfl, by decide⟩
theorem rfoldl16 {C : List Value} (h : C.length = 16) (z0 z1 z2 z3 z4 z5 z6 z7 z8 z9 z10 z11 z12 z13 z14 z15 : Value) : List.foldl (fun (cs : Array Value) (x : Value × Nat) => cs.setIfInBounds x.snd x.fst) #[z0, z1, z2, z3, z4, z5, z6, z7, z8, z9, z10, z11, z12, z13, z14, z15] C.zipIdx = C.toArray := by
  obtain ⟨c0, c1, c2, c3, c4, c5, c6, c7, c8, c9, c10, c11, c12, c13, c14, c15, rfl⟩ := rlist16 h
  simp [List.zipIdx]
/-- One element more, behind a row that may be long. -/
theorem wpList_appOneL {P : Program} {w : World} {ops : Array Oper} {rest : List Oper} {o : Oper} {a : Act} {Q : Exit → Act → World → Prop} {t e : TypeId} {z : Value} {size bytes : Nat} (he : ElemOf P t e z size bytes)
    (hg : Region.wanted o (yielded ops a.tmps) = true) (s x : Operand) (hop : o.op = Op.call { callee := Callee.builtin Builtin.append, args := #[s, x], argTypes := #[t, t] }) {base : Nat}
    {v : Value} {k : Nat} {xs : List Value} (hs : a.eval s = v) (hown : w.ownsRow base e size v k xs) {B cp : Nat} {news : List Value} (hx : a.eval x = .slice (some ⟨B, 0, none⟩) 1 cp)
    (hB : w.rangeAt B 0 news) (hn : news.length = size) (h1 : ∀ u ∈ news, u.oneCell' = true) (hb : k ≤ 5000) (hby : bytes ≤ 1000) (b3 : base ≤ w.heap.size)
    (hK : ∀ v' w', w'.ownsRow base e size v' (k + 1) (xs ++ news) → w.grownBy w' v.ownBlock → (v'.ownBlock = v.ownBlock ∨ v'.ownBlock = some w.heap.size) → wpList P ops Q rest (a.put o.dst v') w') :
    wpList P ops Q (o :: rest) a w := by
  have hm : (k + 1) * bytes ≤ 5001 * 1000 := Nat.mul_le_mul (by omega) hby
  refine wpList_appAt w he hg s x t hop base v k xs hs hown _ 1 news hx (Src.ofSlice _ he.1 _ _ _ _ (by rw [hn]; omega) ?_ h1) (by unfold maxLen; omega) (by omega) b3 hK
  intro j u hu
  rw [Addr.add_lit]
  exact hB j u hu
/-- What Parse comes to. -/
def RParseS (xs : List UInt8) (w : World) (e : Ending) (w' : World) : Prop :=
  (parseS xs = none ∧ e = .returned (.tuple #[.agg #[.int .i64 0, .int .i64 0, .int .i64 0, .int .i64 0, .int .i64 0, .int .i64 0, .slice none 0 0, .int .i64 0], .bool false]) ∧ Ext w w') ∨
  ∃ s, parseS xs = some s ∧ ∃ v, e = .returned (.tuple #[v, .bool true]) ∧ Ext w w' ∧ SnOwn 59 3 43 w.heap.size w' s v

set_option maxRecDepth 100000 in
set_option maxHeartbeats 32000000 in
theorem rsParse_any (v : Value) (xs : List UInt8) (w : World) (h : Bytes w v xs) :
    Calls Tryz.prog 15 #[v] w (RParseS xs w) := by
  obtain ⟨ax, cx, rfl, hcap, hcm⟩ := id h
  have hlm := h.length_le
  have HB := Lib.hid h
  have b1 := BoxL.new w [.int .i64 0, .int .i64 0, .int .i64 0, .int .i64 0, .int .i64 0, .int .i64 0, .slice none 0 0, .int .i64 0] 26
  have e1 := (Ext.refl w).alloc (.cells #[.int .i64 0, .int .i64 0, .int .i64 0, .int .i64 0, .int .i64 0, .int .i64 0, .slice none 0 0, .int .i64 0] 26)
  clear h hcm
  go_enter Tryz.func15, Tryz.ntmps15
  go_wp2_with fail
  have B1 : Hid (BoxL (w.alloc (.cells #[.int .i64 0, .int .i64 0, .int .i64 0, .int .i64 0, .int .i64 0, .int .i64 0, .slice none 0 0, .int .i64 0] 26)) w.heap.size z8) := Lib.hid b1
  have E1 := Lib.hid e1
  clear b1 e1
  generalize w.alloc (.cells #[.int .i64 0, .int .i64 0, .int .i64 0, .int .i64 0, .int .i64 0, .int .i64 0, .slice none 0 0, .int .i64 0] 26) = W1 at *
  refine (rnums_lit xs 0 8 8 rfl (by omega) (by omega) _ W1 (HB.out.ext E1.out)).mono ?_
  rintro e w2 ⟨ga, gm, gc, n2, rfl, hE2, hq2⟩
  have E2 := Lib.hid (E1.out.trans hE2)
  have B2 := Lib.hid (B1.out.ext hE2)
  clear B1
  rcases hq2 with ⟨hno, rfl, rfl⟩ | ⟨l8, A, hy, hBA, hAl, ho, hp⟩
  · have HNo : Hid (parseS xs = none) := Lib.hid (rsn_dead hno)
    clear hno
    go_upto_region 3 with (fail)
    have HTh : Hid (w2.there w.heap.size 0 (#[.int .i64 0, .int .i64 0, .int .i64 0, .int .i64 0, .int .i64 0, .int .i64 0, .slice none 0 0, .int .i64 0] : Array Value).size) := Lib.hid (B2.out.there (by simp [z8]))
    have HLs : Hid ((Tryz.prog.info? 26).map (·.size) = some (#[.int .i64 0, .int .i64 0, .int .i64 0, .int .i64 0, .int .i64 0, .int .i64 0, .slice none 0 0, .int .i64 0] : Array Value).size) := Lib.hid info_state
    have HC1 : Hid ((#[.int .i64 0, .int .i64 0, .int .i64 0, .int .i64 0, .int .i64 0, .int .i64 0, .slice none 0 0, .int .i64 0] : Array Value).all (·.oneCell') = true) := Lib.hid (by simp [Value.oneCell'])
    have HBF : Hid (BoxL (w2.setCells w.heap.size 0 [.int .i64 0, .int .i64 0, .int .i64 0, .int .i64 0, .int .i64 0, .int .i64 0, .slice none 0 0, .int .i64 0]) w.heap.size [.int .i64 0, .int .i64 0, .int .i64 0, .int .i64 0, .int .i64 0, .int .i64 0, .slice none 0 0, .int .i64 0]) := Lib.hid (B2.out.setAll rfl)
    have HGF : Hid (w2.grownBy (w2.setCells w.heap.size 0 [.int .i64 0, .int .i64 0, .int .i64 0, .int .i64 0, .int .i64 0, .int .i64 0, .slice none 0 0, .int .i64 0]) (some w.heap.size)) := Lib.hid (setCells_grown _ _ _ _)
    go_wp2_with (refine wpList_store_mid rfl _ _ _ rfl _ _ _ rfl rfl HTh.out HLs.out HC1.out ?_)
    generalize w2.setCells w.heap.size 0 [.int .i64 0, .int .i64 0, .int .i64 0, .int .i64 0, .int .i64 0, .int .i64 0, .slice none 0 0, .int .i64 0] = yF at *
    have ⟨p0, p1, p2, p3, p4, p5, p6, p7⟩ := HBF.out.n8
    have HP : Hid (RParseS xs w (.returned (.tuple #[.agg #[.int .i64 0, .int .i64 0, .int .i64 0, .int .i64 0, .int .i64 0, .int .i64 0, .slice none 0 0, .int .i64 0], .bool false])) yF) := Lib.hid (.inl ⟨HNo.out, rfl, E2.out.grown HGF.out (fun k hk => by injection hk with hk; omega)⟩)
    clear HTh HLs HC1 HBF HGF
    refine bodyPost_ret (v := .tuple #[.agg #[.int .i64 0, .int .i64 0, .int .i64 0, .int .i64 0, .int .i64 0, .int .i64 0, .slice none 0 0, .int .i64 0], .bool false]) (by simp [results, Tryz.results15, go_sem, p0, p1, p2, p3, p4, p5, p6, p7]) rfl ?_
    exact HP.out
  have hk2 : ((n2 : Int) == 0) = false := by have := hp (by omega); simp; omega
  obtain ⟨h0, h1, h2, h3, h4, h5, h6, h7, rfl⟩ := eight (readM_nums_inv hy).1
  have hI := (readM_nums_inv hy).2.2
  obtain ⟨g1, cap1, hv, hb1, hlt1, hc1⟩ := own_cells ho (by simp)
  injection hv with q1 q2 q3
  subst q1 q3
  obtain rfl : gm = 8 := q2
  obtain rfl : A = n2 := by omega
  have HG : Hid (∀ W, Ext w2 W → W.cell? ⟨g1, 0, none⟩ = some (.int .i64 h0) ∧ W.cell? ⟨g1, 1, none⟩ = some (.int .i64 h1) ∧ W.cell? ⟨g1, 2, none⟩ = some (.int .i64 h2) ∧ W.cell? ⟨g1, 3, none⟩ = some (.int .i64 h3) ∧ W.cell? ⟨g1, 4, none⟩ = some (.int .i64 h4) ∧ W.cell? ⟨g1, 5, none⟩ = some (.int .i64 h5) ∧ W.cell? ⟨g1, 6, none⟩ = some (.int .i64 h6) ∧ W.cell? ⟨g1, 7, none⟩ = some (.int .i64 h7)) := Lib.hid (fun W h => ⟨(h.cell (p := ⟨g1, 0, none⟩) hlt1).trans (hc1 0 (by simp)), (h.cell (p := ⟨g1, 1, none⟩) hlt1).trans (hc1 1 (by simp)), (h.cell (p := ⟨g1, 2, none⟩) hlt1).trans (hc1 2 (by simp)), (h.cell (p := ⟨g1, 3, none⟩) hlt1).trans (hc1 3 (by simp)), (h.cell (p := ⟨g1, 4, none⟩) hlt1).trans (hc1 4 (by simp)), (h.cell (p := ⟨g1, 5, none⟩) hlt1).trans (hc1 5 (by simp)), (h.cell (p := ⟨g1, 6, none⟩) hlt1).trans (hc1 6 (by simp)), (h.cell (p := ⟨g1, 7, none⟩) hlt1).trans (hc1 7 (by simp))⟩)
  have HI : Hid (isI64 h0 ∧ isI64 h1 ∧ isI64 h2 ∧ isI64 h3 ∧ isI64 h4 ∧ isI64 h5 ∧ isI64 h6) := Lib.hid ⟨hI _ (by simp), hI _ (by simp), hI _ (by simp), hI _ (by simp), hI _ (by simp), hI _ (by simp), hI _ (by simp)⟩
  have ⟨q0, q1, q2, q3, q4, q5, q6, q7⟩ := HG.out w2 (Ext.refl _)
  have HY : Hid (readM hdN 8 xs = some ([h0, h1, h2, h3, h4, h5, h6, h7], xs.drop A)) := Lib.hid hy
  clear hc1 ho hy hBA hp hI hE2
  by_cases hbad : h7 < 0 ∨ 4800 < h7
  · have HNo : Hid (parseS xs = none) := Lib.hid (rsn_many HY.out hbad)
    clear HG HI
    rcases (by omega : h7 < 0 ∨ (¬ h7 < 0 ∧ 4800 < h7)) with k1 | ⟨k1, k2⟩
    all_goals
      clear hbad
      go_upto_region 3 with (fail)
      have HTh : Hid (w2.there w.heap.size 0 (#[.int .i64 0, .int .i64 0, .int .i64 0, .int .i64 0, .int .i64 0, .int .i64 0, .slice none 0 0, .int .i64 0] : Array Value).size) := Lib.hid (B2.out.there (by simp [z8]))
      have HLs : Hid ((Tryz.prog.info? 26).map (·.size) = some (#[.int .i64 0, .int .i64 0, .int .i64 0, .int .i64 0, .int .i64 0, .int .i64 0, .slice none 0 0, .int .i64 0] : Array Value).size) := Lib.hid info_state
      have HC1 : Hid ((#[.int .i64 0, .int .i64 0, .int .i64 0, .int .i64 0, .int .i64 0, .int .i64 0, .slice none 0 0, .int .i64 0] : Array Value).all (·.oneCell') = true) := Lib.hid (by simp [Value.oneCell'])
      have HBF : Hid (BoxL (w2.setCells w.heap.size 0 [.int .i64 0, .int .i64 0, .int .i64 0, .int .i64 0, .int .i64 0, .int .i64 0, .slice none 0 0, .int .i64 0]) w.heap.size [.int .i64 0, .int .i64 0, .int .i64 0, .int .i64 0, .int .i64 0, .int .i64 0, .slice none 0 0, .int .i64 0]) := Lib.hid (B2.out.setAll rfl)
      have HGF : Hid (w2.grownBy (w2.setCells w.heap.size 0 [.int .i64 0, .int .i64 0, .int .i64 0, .int .i64 0, .int .i64 0, .int .i64 0, .slice none 0 0, .int .i64 0]) (some w.heap.size)) := Lib.hid (setCells_grown _ _ _ _)
      go_wp2_with (refine wpList_store_mid rfl _ _ _ rfl _ _ _ rfl rfl HTh.out HLs.out HC1.out ?_)
      generalize w2.setCells w.heap.size 0 [.int .i64 0, .int .i64 0, .int .i64 0, .int .i64 0, .int .i64 0, .int .i64 0, .slice none 0 0, .int .i64 0] = yF at *
      have ⟨p0, p1, p2, p3, p4, p5, p6, p7⟩ := HBF.out.n8
      have HP : Hid (RParseS xs w (.returned (.tuple #[.agg #[.int .i64 0, .int .i64 0, .int .i64 0, .int .i64 0, .int .i64 0, .int .i64 0, .slice none 0 0, .int .i64 0], .bool false])) yF) := Lib.hid (.inl ⟨HNo.out, rfl, E2.out.grown HGF.out (fun k hk => by injection hk with hk; omega)⟩)
      clear HTh HLs HC1 HBF HGF
      refine bodyPost_ret (v := .tuple #[.agg #[.int .i64 0, .int .i64 0, .int .i64 0, .int .i64 0, .int .i64 0, .int .i64 0, .slice none 0 0, .int .i64 0], .bool false]) (by simp [results, Tryz.results15, go_sem, p0, p1, p2, p3, p4, p5, p6, p7]) rfl ?_
      exact HP.out
  have h70 : ¬ h7 < 0 := by omega
  have h71 : ¬ 4800 < h7 := by omega
  clear hbad
  go_upto_region 4 with (fail)
  obtain ⟨M, rfl⟩ : ∃ M : Nat, h7 = (M : Int) := ⟨h7.toNat, by omega⟩
  have hM48 : M ≤ 4800 := by omega
  have hz2 := E2.out.size
  have hz1 := B2.out.lt
  clear q0 q1 q2 q3 q4 q5 q6 q7 h70 h71
  refine wp_region_held_drew (S := (fun w' => w'.cell? ⟨g1, 0, none⟩ = some (.int .i64 h0) ∧ w'.cell? ⟨g1, 1, none⟩ = some (.int .i64 h1) ∧ w'.cell? ⟨g1, 2, none⟩ = some (.int .i64 h2) ∧ w'.cell? ⟨g1, 3, none⟩ = some (.int .i64 h3) ∧ w'.cell? ⟨g1, 4, none⟩ = some (.int .i64 h4) ∧ w'.cell? ⟨g1, 5, none⟩ = some (.int .i64 h5) ∧ w'.cell? ⟨g1, 6, none⟩ = some (.int .i64 h6) ∧ w'.cell? ⟨g1, 7, none⟩ = some (.int .i64 (M : Int)))) (by kernel_rfl) ?_ (fun hHeld => ?_)
  · (try dsimp only)
    (first | exact HG.out _ ES.out | exact HG.out _ EA.out | exact HG.out _ (Ext.refl _).drew)
  refine take_w 0 (some 30) (v := ?_) (by kernel_rfl) (by kernel_rfl) (by kernel_rfl) (by kernel_rfl) (by kernel_rfl) (fun _ _ _ h => h) (by rfl) ?_ (by assumption) ?_
  rotate_left
  · (intro w hSw; (try dsimp only at hSw); go_simp; try with_reducible rfl)
  try simp only [Act.put, List.setIfInBounds_toArray, List.set_cons_zero, List.set_cons_succ]
  refine take_w 1 (some 31) (v := ?_) (by kernel_rfl) (by kernel_rfl) (by kernel_rfl) (by kernel_rfl) (by kernel_rfl) (fun _ _ _ h => h) (by rfl) ?_ (by assumption) ?_
  rotate_left
  · (intro w hSw; (try dsimp only at hSw); go_simp; try with_reducible rfl)
  try simp only [Act.put, List.setIfInBounds_toArray, List.set_cons_zero, List.set_cons_succ]
  refine take_w 2 (some 32) (v := ?_) (by kernel_rfl) (by kernel_rfl) (by kernel_rfl) (by kernel_rfl) (by kernel_rfl) (fun _ _ _ h => h) (by rfl) ?_ (by assumption) ?_
  rotate_left
  · (intro w hSw; (try dsimp only at hSw); go_simp; try with_reducible rfl)
  try simp only [Act.put, List.setIfInBounds_toArray, List.set_cons_zero, List.set_cons_succ]
  refine take_w 3 (some 33) (v := ?_) (by kernel_rfl) (by kernel_rfl) (by kernel_rfl) (by kernel_rfl) (by kernel_rfl) (fun _ _ _ h => h) (by rfl) ?_ (by assumption) ?_
  rotate_left
  · (intro w hSw; (try dsimp only at hSw); go_simp; try with_reducible rfl)
  try simp only [Act.put, List.setIfInBounds_toArray, List.set_cons_zero, List.set_cons_succ]
  refine take_w 4 (some 34) (v := ?_) (by kernel_rfl) (by kernel_rfl) (by kernel_rfl) (by kernel_rfl) (by kernel_rfl) (fun _ _ _ h => h) (by rfl) ?_ (by assumption) ?_
  rotate_left
  · (intro w hSw; (try dsimp only at hSw); go_simp; try with_reducible rfl)
  try simp only [Act.put, List.setIfInBounds_toArray, List.set_cons_zero, List.set_cons_succ]
  refine take_w 5 (some 35) (v := ?_) (by kernel_rfl) (by kernel_rfl) (by kernel_rfl) (by kernel_rfl) (by kernel_rfl) (fun _ _ _ h => h) (by rfl) ?_ (by assumption) ?_
  rotate_left
  · (intro w hSw; (try dsimp only at hSw); go_simp; try with_reducible rfl)
  try simp only [Act.put, List.setIfInBounds_toArray, List.set_cons_zero, List.set_cons_succ]
  refine take_w 6 (some 36) (v := ?_) (by kernel_rfl) (by kernel_rfl) (by kernel_rfl) (by kernel_rfl) (by kernel_rfl) (fun _ _ _ h => h) (by rfl) ?_ (by assumption) ?_
  rotate_left
  · (intro w hSw; (try dsimp only at hSw); go_simp; try with_reducible rfl)
  try simp only [Act.put, List.setIfInBounds_toArray, List.set_cons_zero, List.set_cons_succ]
  refine take_w 7 (some 37) (v := ?_) (by kernel_rfl) (by kernel_rfl) (by kernel_rfl) (by kernel_rfl) (by kernel_rfl) (fun _ _ _ h => h) (by rfl) ?_ (by assumption) ?_
  rotate_left
  · (intro w hSw; (try dsimp only at hSw); go_simp; try with_reducible rfl)
  try simp only [Act.put, List.setIfInBounds_toArray, List.set_cons_zero, List.set_cons_succ]
  refine take_w 8 (some 38) (v := ?_) (by kernel_rfl) (by kernel_rfl) (by kernel_rfl) (by kernel_rfl) (by kernel_rfl) (fun _ _ _ h => h) (by rfl) ?_ (by assumption) ?_
  rotate_left
  · (intro w hSw; (try dsimp only at hSw); go_simp; try with_reducible rfl)
  try simp only [Act.put, List.setIfInBounds_toArray, List.set_cons_zero, List.set_cons_succ]
  refine take_w 9 (some 39) (v := ?_) (by kernel_rfl) (by kernel_rfl) (by kernel_rfl) (by kernel_rfl) (by kernel_rfl) (fun _ _ _ h => h) (by rfl) ?_ (by assumption) ?_
  rotate_left
  · (intro w hSw; (try dsimp only at hSw); go_simp; try with_reducible rfl)
  try simp only [Act.put, List.setIfInBounds_toArray, List.set_cons_zero, List.set_cons_succ]
  refine take_w 10 (some 40) (v := ?_) (by kernel_rfl) (by kernel_rfl) (by kernel_rfl) (by kernel_rfl) (by kernel_rfl) (fun _ _ _ h => h) (by rfl) ?_ (by assumption) ?_
  rotate_left
  · (intro w hSw; (try dsimp only at hSw); go_simp; try with_reducible rfl)
  try simp only [Act.put, List.setIfInBounds_toArray, List.set_cons_zero, List.set_cons_succ]
  refine take_w 11 (some 41) (v := ?_) (by kernel_rfl) (by kernel_rfl) (by kernel_rfl) (by kernel_rfl) (by kernel_rfl) (fun _ _ _ h => h) (by rfl) ?_ (by assumption) ?_
  rotate_left
  · (intro w hSw; (try dsimp only at hSw); go_simp; try with_reducible rfl)
  try simp only [Act.put, List.setIfInBounds_toArray, List.set_cons_zero, List.set_cons_succ]
  refine take_w 12 (some 42) (v := ?_) (by kernel_rfl) (by kernel_rfl) (by kernel_rfl) (by kernel_rfl) (by kernel_rfl) (fun _ _ _ h => h) (by rfl) ?_ (by assumption) ?_
  rotate_left
  · (intro w hSw; (try dsimp only at hSw); go_simp; try with_reducible rfl)
  try simp only [Act.put, List.setIfInBounds_toArray, List.set_cons_zero, List.set_cons_succ]
  refine take_w 13 (some 43) (v := ?_) (by kernel_rfl) (by kernel_rfl) (by kernel_rfl) (by kernel_rfl) (by kernel_rfl) (fun _ _ _ h => h) (by rfl) ?_ (by assumption) ?_
  rotate_left
  · (intro w hSw; (try dsimp only at hSw); go_simp; try with_reducible rfl)
  try simp only [Act.put, List.setIfInBounds_toArray, List.set_cons_zero, List.set_cons_succ]
  refine take_w 14 (some 44) (v := ?_) (by kernel_rfl) (by kernel_rfl) (by kernel_rfl) (by kernel_rfl) (by kernel_rfl) (fun _ _ _ h => h) (by rfl) ?_ (by assumption) ?_
  rotate_left
  · (intro w hSw; (try dsimp only at hSw); go_simp; try with_reducible rfl)
  try simp only [Act.put, List.setIfInBounds_toArray, List.set_cons_zero, List.set_cons_succ]
  refine take_w 15 (some 45) (v := ?_) (by kernel_rfl) (by kernel_rfl) (by kernel_rfl) (by kernel_rfl) (by kernel_rfl) (fun _ _ _ h => h) (by rfl) ?_ (by assumption) ?_
  rotate_left
  · (intro w hSw; (try dsimp only at hSw); go_simp; try with_reducible rfl)
  try simp only [Act.put, List.setIfInBounds_toArray, List.set_cons_zero, List.set_cons_succ]
  refine take_w 16 (some 46) (v := ?_) (by kernel_rfl) (by kernel_rfl) (by kernel_rfl) (by kernel_rfl) (by kernel_rfl) (fun _ _ _ h => h) (by rfl) ?_ (by assumption) ?_
  rotate_left
  · (intro w hSw; (try dsimp only at hSw); go_simp; try with_reducible rfl)
  try simp only [Act.put, List.setIfInBounds_toArray, List.set_cons_zero, List.set_cons_succ]
  refine take_w 17 (some 47) (v := ?_) (by kernel_rfl) (by kernel_rfl) (by kernel_rfl) (by kernel_rfl) (by kernel_rfl) (fun _ _ _ h => h) (by rfl) ?_ (by assumption) ?_
  rotate_left
  · (intro w hSw; (try dsimp only at hSw); go_simp; try with_reducible rfl)
  try simp only [Act.put, List.setIfInBounds_toArray, List.set_cons_zero, List.set_cons_succ]
  refine take_w 18 (some 48) (v := ?_) (by kernel_rfl) (by kernel_rfl) (by kernel_rfl) (by kernel_rfl) (by kernel_rfl) (fun _ _ _ h => h) (by rfl) ?_ (by assumption) ?_
  rotate_left
  · (intro w hSw; (try dsimp only at hSw); go_simp; try with_reducible rfl)
  try simp only [Act.put, List.setIfInBounds_toArray, List.set_cons_zero, List.set_cons_succ]
  refine take_w 19 (some 49) (v := ?_) (by kernel_rfl) (by kernel_rfl) (by kernel_rfl) (by kernel_rfl) (by kernel_rfl) (fun _ _ _ h => h) (by rfl) ?_ (by assumption) ?_
  rotate_left
  · (intro w hSw; (try dsimp only at hSw); go_simp; try with_reducible rfl)
  try simp only [Act.put, List.setIfInBounds_toArray, List.set_cons_zero, List.set_cons_succ]
  refine take_w 20 (some 50) (v := ?_) (by kernel_rfl) (by kernel_rfl) (by kernel_rfl) (by kernel_rfl) (by kernel_rfl) (fun _ _ _ h => h) (by rfl) ?_ (by assumption) ?_
  rotate_left
  · (intro w hSw; (try dsimp only at hSw); go_simp; try with_reducible rfl)
  try simp only [Act.put, List.setIfInBounds_toArray, List.set_cons_zero, List.set_cons_succ]
  refine take_w 21 (some 51) (v := ?_) (by kernel_rfl) (by kernel_rfl) (by kernel_rfl) (by kernel_rfl) (by kernel_rfl) (fun _ _ _ h => h) (by rfl) ?_ (by assumption) ?_
  rotate_left
  · (intro w hSw; (try dsimp only at hSw); go_simp; try with_reducible rfl)
  try simp only [Act.put, List.setIfInBounds_toArray, List.set_cons_zero, List.set_cons_succ]
  refine take_w 22 (some 52) (v := ?_) (by kernel_rfl) (by kernel_rfl) (by kernel_rfl) (by kernel_rfl) (by kernel_rfl) (fun _ _ _ h => h) (by rfl) ?_ (by assumption) ?_
  rotate_left
  · (intro w hSw; (try dsimp only at hSw); go_simp; try with_reducible rfl)
  try simp only [Act.put, List.setIfInBounds_toArray, List.set_cons_zero, List.set_cons_succ]
  refine ready_one 23 (by kernel_rfl) (by kernel_rfl) (by rfl) (fun Kc hKc => ?_)
  go_simp
  have EA : Hid (Ext w2 (w2.alloc (.cells #[.int .i64 0, .int .i64 0, .int .i64 0, .int .i64 0, .int .i64 0, .int .i64 0, .slice none 0 0, .int .i64 0] 26)).drew) := Lib.hid ((Ext.refl _).alloc _).drew
  have BA : Hid (BoxL (w2.alloc (.cells #[.int .i64 0, .int .i64 0, .int .i64 0, .int .i64 0, .int .i64 0, .int .i64 0, .slice none 0 0, .int .i64 0] 26)).drew w2.heap.size [.int .i64 0, .int .i64 0, .int .i64 0, .int .i64 0, .int .i64 0, .int .i64 0, .slice none 0 0, .int .i64 0]) := Lib.hid ((BoxL.new w2 [.int .i64 0, .int .i64 0, .int .i64 0, .int .i64 0, .int .i64 0, .int .i64 0, .slice none 0 0, .int .i64 0] _).ext (Ext.refl _).drew)
  try go_wp2_with fail
  refine hKc.out _ _ ?_ (fun hHeld => ?_)
  · (try dsimp only)
    (first | exact HG.out _ ES.out | exact HG.out _ EA.out | exact HG.out _ (Ext.refl _).drew)
  clear hKc Kc
  try simp only [Act.put, List.setIfInBounds_toArray, List.set_cons_zero, List.set_cons_succ]
  refine ready_one 24 (by kernel_rfl) (by kernel_rfl) (by rfl) (fun Kc hKc => ?_)
  generalize (w2.alloc (.cells #[.int .i64 0, .int .i64 0, .int .i64 0, .int .i64 0, .int .i64 0, .int .i64 0, .slice none 0 0, .int .i64 0] 26)).drew = D4 at *
  have HTx : Hid (D4.there w2.heap.size 0 (#[.int .i64 h0, .int .i64 h1, .int .i64 h2, .int .i64 h3, .int .i64 h4, .int .i64 h5, .slice none 0 0, .int .i64 h6] : Array Value).size) := Lib.hid (BA.out.there (by simp))
  have BS : Hid (BoxL (D4.setCells w2.heap.size 0 [.int .i64 h0, .int .i64 h1, .int .i64 h2, .int .i64 h3, .int .i64 h4, .int .i64 h5, .slice none 0 0, .int .i64 h6]) w2.heap.size [.int .i64 h0, .int .i64 h1, .int .i64 h2, .int .i64 h3, .int .i64 h4, .int .i64 h5, .slice none 0 0, .int .i64 h6]) := Lib.hid (BA.out.setAll rfl)
  have ES : Hid (Ext w2 (D4.setCells w2.heap.size 0 [.int .i64 h0, .int .i64 h1, .int .i64 h2, .int .i64 h3, .int .i64 h4, .int .i64 h5, .slice none 0 0, .int .i64 h6])) := Lib.hid (EA.out.grown (setCells_grown _ _ _ _) (fun k hk => by injection hk with hk; omega))
  refine wp_store_mid 26 (.tmp 6) (.tmp 52) (by kernel_rfl) w2.heap.size 0 #[.int .i64 h0, .int .i64 h1, .int .i64 h2, .int .i64 h3, .int .i64 h4, .int .i64 h5, .slice none 0 0, .int .i64 h6] (by kernel_rfl) (by kernel_rfl) HTx.out info_state (by simp [Value.oneCell']) ?_
  refine hKc.out _ _ ?_ (fun hHeld => ?_)
  · (try dsimp only)
    (first | exact HG.out _ ES.out | exact HG.out _ EA.out | exact HG.out _ (Ext.refl _).drew)
  clear hKc Kc
  try simp only [Act.put, List.setIfInBounds_toArray, List.set_cons_zero, List.set_cons_succ]
  try simp only [List.toList_toArray]
  clear HTx BA EA
  generalize D4.setCells w2.heap.size 0 [.int .i64 h0, .int .i64 h1, .int .i64 h2, .int .i64 h3, .int .i64 h4, .int .i64 h5, .slice none 0 0, .int .i64 h6] = y3 at *
  refine wpAnyH_done (by kernel_rfl) ?_ _
  have HG3 : Hid (∀ W, Ext y3 W → W.cell? ⟨g1, 7, none⟩ = some (.int .i64 (M : Int))) := Lib.hid (fun W h => (HG.out W (ES.out.trans h)).2.2.2.2.2.2.2)
  have E3 := Lib.hid (E2.out.trans ES.out)
  have B3 := Lib.hid (B2.out.ext ES.out)
  have hz3 := BS.out.lt
  have hg3 : g1 < y3.heap.size := Nat.lt_of_lt_of_le hlt1 ES.out.size
  obtain ⟨SB, hSB⟩ : ∃ SB, SB = w2.heap.size := ⟨_, rfl⟩
  rw [← hSB] at BS hz3 ⊢
  have hSw : w.heap.size < SB := by omega
  have hSg : g1 < SB := by omega
  clear HG ES B2 hSB hz2 hlt1
  go_wp2_with fail
  go_loopw [5, 7] (fun t i wr => ∃ (j At : Nat) (a : Option Addr) (c : Nat) (l : List Nd), j ≤ M ∧ t = .int .i64 (At : Int) ∧ i = .int .i64 (j : Int) ∧ At ≤ xs.length ∧ Hid (readM rnd j (xs.drop A) = some (l, xs.drop At)) ∧ Hid (Ext w wr) ∧ Hid (BoxL wr w.heap.size z8) ∧ Hid (BoxL wr SB [.int .i64 h0, .int .i64 h1, .int .i64 h2, .int .i64 h3, .int .i64 h4, .int .i64 h5, .slice a j c, .int .i64 h6]) ∧ Hid (OwnNds 59 3 43 (SB + 1) wr (.slice a j c) l) ∧ Hid (wr.cell? ⟨g1, 7, none⟩ = some (.int .i64 (M : Int)))) (fun _ i _ => M - (intOf i).toNat)
  case atStart => exact ⟨0, A, none, 0, [], by omega, rfl, rfl, hAl, Lib.hid rfl, E3, B3, BS, Lib.hid (OwnNds.nil _ _ _ _ _), Lib.hid (HG3.out y3 (Ext.refl _))⟩
  case round =>
    clear E3 B3 BS HG3
    obtain ⟨j, At, a, c, l, hj, rfl, rfl, hAtl, HRd, HE, HPB, HSB, HOn, HC7⟩ := hrel
    have q7 := HC7.out
    have hlen := (rnds_inv HRd.out).1
    have hsl := HSB.out.lt
    by_cases hlt : j < M
    case neg =>
      have hlt' : ¬ (j : Int) < (M : Int) := by omega
      have hjM : j = M := by omega
      have HPs : Hid (parseS xs = (if xs.drop At = [] ∧ snB ⟨h0, h1, h2, h3, h4, h5, l, h6⟩ = true then some ⟨h0, h1, h2, h3, h4, h5, l, h6⟩ else none)) := Lib.hid (by
        rw [rsn_go HY.out hM48, ← hjM, HRd.out, Option.bind_some])
      obtain ⟨wq, hwq⟩ : ∃ wq : World, wq = wr := ⟨_, rfl⟩
      subst hwq
      clear hjM hlen
      by_cases hend : At = xs.length
      case neg =>
        have HNo : Hid (parseS xs = none) := Lib.hid (by
          rw [HPs.out, if_neg]
          rintro ⟨h, -⟩
          have := congrArg List.length h
          rw [List.length_drop, List.length_nil] at this
          omega)
        have hne : ((At : Int) != (xs.length : Int)) = true := by simp; omega
        clear hend HPs HOn HRd
        go_upto_region 14 with (fail)
        clear q7 hlt'
        have HTh : Hid (wq.there w.heap.size 0 (#[.int .i64 0, .int .i64 0, .int .i64 0, .int .i64 0, .int .i64 0, .int .i64 0, .slice none 0 0, .int .i64 0] : Array Value).size) := Lib.hid (HPB.out.there (by simp [z8]))
        have HLs : Hid ((Tryz.prog.info? 26).map (·.size) = some (#[.int .i64 0, .int .i64 0, .int .i64 0, .int .i64 0, .int .i64 0, .int .i64 0, .slice none 0 0, .int .i64 0] : Array Value).size) := Lib.hid info_state
        have HC1 : Hid ((#[.int .i64 0, .int .i64 0, .int .i64 0, .int .i64 0, .int .i64 0, .int .i64 0, .slice none 0 0, .int .i64 0] : Array Value).all (·.oneCell') = true) := Lib.hid (by simp [Value.oneCell'])
        have HBF : Hid (BoxL (wq.setCells w.heap.size 0 [.int .i64 0, .int .i64 0, .int .i64 0, .int .i64 0, .int .i64 0, .int .i64 0, .slice none 0 0, .int .i64 0]) w.heap.size [.int .i64 0, .int .i64 0, .int .i64 0, .int .i64 0, .int .i64 0, .int .i64 0, .slice none 0 0, .int .i64 0]) := Lib.hid (HPB.out.setAll rfl)
        have HGF : Hid (wq.grownBy (wq.setCells w.heap.size 0 [.int .i64 0, .int .i64 0, .int .i64 0, .int .i64 0, .int .i64 0, .int .i64 0, .slice none 0 0, .int .i64 0]) (some w.heap.size)) := Lib.hid (setCells_grown _ _ _ _)
        go_wp2_with (refine wpList_store_mid rfl _ _ _ rfl _ _ _ rfl rfl HTh.out HLs.out HC1.out ?_)
        generalize wq.setCells w.heap.size 0 [.int .i64 0, .int .i64 0, .int .i64 0, .int .i64 0, .int .i64 0, .int .i64 0, .slice none 0 0, .int .i64 0] = yF at *
        have ⟨p0, p1, p2, p3, p4, p5, p6, p7⟩ := HBF.out.n8
        have HP : Hid (RParseS xs w (.returned (.tuple #[.agg #[.int .i64 0, .int .i64 0, .int .i64 0, .int .i64 0, .int .i64 0, .int .i64 0, .slice none 0 0, .int .i64 0], .bool false])) yF) := Lib.hid (.inl ⟨HNo.out, rfl, HE.out.grown HGF.out (fun k hk => by injection hk with hk; omega)⟩)
        clear HTh HLs HC1 HBF HGF
        refine bodyPost_ret (v := .tuple #[.agg #[.int .i64 0, .int .i64 0, .int .i64 0, .int .i64 0, .int .i64 0, .int .i64 0, .slice none 0 0, .int .i64 0], .bool false]) (by simp [results, Tryz.results15, go_sem, p0, p1, p2, p3, p4, p5, p6, p7]) rfl ?_
        exact HP.out
      have hne : ((At : Int) != (xs.length : Int)) = false := by simp [hend]
      have hdr : xs.drop At = [] := by rw [hend, List.drop_length]
      rw [hdr] at HPs
      clear hend hdr
      have ⟨p0, p1, p2, p3, p4, p5, p6, p7⟩ := HSB.out.n8
      have HVs : Hid (SnV wq ⟨h0, h1, h2, h3, h4, h5, l, h6⟩ (.agg #[.int .i64 h0, .int .i64 h1, .int .i64 h2, .int .i64 h3, .int .i64 h4, .int .i64 h5, .slice a j c, .int .i64 h6])) := Lib.hid ⟨a, j, c, rfl, HOn.out.row, HI.out⟩
      have HPd : Hid (∀ n, n ∈ l → partsT n.val ≤ 1000000 ∧ deepT n.val ≤ 1000000) := Lib.hid (fun n hn => right_parts ((rnds_inv HRd.out).2.1 n hn))
      go_wp2_with fail
      refine (rsRight_any ⟨h0, h1, h2, h3, h4, h5, l, h6⟩ HPd.out wq _ HVs.out).mono ?_
      rintro e wz ⟨rfl, hEz⟩
      have HE2 := Lib.hid (HE.out.trans hEz)
      have HPB2 := Lib.hid (HPB.out.ext hEz)
      have HSB2 := Lib.hid (HSB.out.ext hEz)
      have HOn2 := Lib.hid (HOn.out.ext hEz)
      clear hEz HE HPB HSB HOn HVs HPd p0 p1 p2 p3 p4 p5 p6 p7 q7 HC7 HRd hsl
      cases hs : snB ⟨h0, h1, h2, h3, h4, h5, l, h6⟩ with
      | false =>
        have HNo : Hid (parseS xs = none) := Lib.hid (by rw [HPs.out, hs]; simp)
        clear hs HPs
        go_upto_region 14 with (fail)
        have HTh : Hid (wz.there w.heap.size 0 (#[.int .i64 0, .int .i64 0, .int .i64 0, .int .i64 0, .int .i64 0, .int .i64 0, .slice none 0 0, .int .i64 0] : Array Value).size) := Lib.hid (HPB2.out.there (by simp [z8]))
        have HLs : Hid ((Tryz.prog.info? 26).map (·.size) = some (#[.int .i64 0, .int .i64 0, .int .i64 0, .int .i64 0, .int .i64 0, .int .i64 0, .slice none 0 0, .int .i64 0] : Array Value).size) := Lib.hid info_state
        have HC1 : Hid ((#[.int .i64 0, .int .i64 0, .int .i64 0, .int .i64 0, .int .i64 0, .int .i64 0, .slice none 0 0, .int .i64 0] : Array Value).all (·.oneCell') = true) := Lib.hid (by simp [Value.oneCell'])
        have HBF : Hid (BoxL (wz.setCells w.heap.size 0 [.int .i64 0, .int .i64 0, .int .i64 0, .int .i64 0, .int .i64 0, .int .i64 0, .slice none 0 0, .int .i64 0]) w.heap.size [.int .i64 0, .int .i64 0, .int .i64 0, .int .i64 0, .int .i64 0, .int .i64 0, .slice none 0 0, .int .i64 0]) := Lib.hid (HPB2.out.setAll rfl)
        have HGF : Hid (wz.grownBy (wz.setCells w.heap.size 0 [.int .i64 0, .int .i64 0, .int .i64 0, .int .i64 0, .int .i64 0, .int .i64 0, .slice none 0 0, .int .i64 0]) (some w.heap.size)) := Lib.hid (setCells_grown _ _ _ _)
        go_wp2_with (refine wpList_store_mid rfl _ _ _ rfl _ _ _ rfl rfl HTh.out HLs.out HC1.out ?_)
        generalize wz.setCells w.heap.size 0 [.int .i64 0, .int .i64 0, .int .i64 0, .int .i64 0, .int .i64 0, .int .i64 0, .slice none 0 0, .int .i64 0] = yF at *
        have ⟨p0, p1, p2, p3, p4, p5, p6, p7⟩ := HBF.out.n8
        have HP : Hid (RParseS xs w (.returned (.tuple #[.agg #[.int .i64 0, .int .i64 0, .int .i64 0, .int .i64 0, .int .i64 0, .int .i64 0, .slice none 0 0, .int .i64 0], .bool false])) yF) := Lib.hid (.inl ⟨HNo.out, rfl, HE2.out.grown HGF.out (fun k hk => by injection hk with hk; omega)⟩)
        clear HTh HLs HC1 HBF HGF
        refine bodyPost_ret (v := .tuple #[.agg #[.int .i64 0, .int .i64 0, .int .i64 0, .int .i64 0, .int .i64 0, .int .i64 0, .slice none 0 0, .int .i64 0], .bool false]) (by simp [results, Tryz.results15, go_sem, p0, p1, p2, p3, p4, p5, p6, p7]) rfl ?_
        exact HP.out
      | true =>
        have HYes : Hid (parseS xs = some ⟨h0, h1, h2, h3, h4, h5, l, h6⟩) := Lib.hid (by rw [HPs.out, hs]; simp)
        clear hs HPs
        go_upto_region 15 with (fail)
        have ⟨r0, r1, r2, r3, r4, r5, r6, r7⟩ := HSB2.out.n8
        have HTh : Hid (wz.there w.heap.size 0 (#[.int .i64 h0, .int .i64 h1, .int .i64 h2, .int .i64 h3, .int .i64 h4, .int .i64 h5, .slice a j c, .int .i64 h6] : Array Value).size) := Lib.hid (HPB2.out.there (by simp [z8]))
        have HLs : Hid ((Tryz.prog.info? 26).map (·.size) = some (#[.int .i64 h0, .int .i64 h1, .int .i64 h2, .int .i64 h3, .int .i64 h4, .int .i64 h5, .slice a j c, .int .i64 h6] : Array Value).size) := Lib.hid info_state
        have HC1 : Hid ((#[.int .i64 h0, .int .i64 h1, .int .i64 h2, .int .i64 h3, .int .i64 h4, .int .i64 h5, .slice a j c, .int .i64 h6] : Array Value).all (·.oneCell') = true) := Lib.hid (by simp [Value.oneCell'])
        have HBF : Hid (BoxL (wz.setCells w.heap.size 0 [.int .i64 h0, .int .i64 h1, .int .i64 h2, .int .i64 h3, .int .i64 h4, .int .i64 h5, .slice a j c, .int .i64 h6]) w.heap.size [.int .i64 h0, .int .i64 h1, .int .i64 h2, .int .i64 h3, .int .i64 h4, .int .i64 h5, .slice a j c, .int .i64 h6]) := Lib.hid (HPB2.out.setAll rfl)
        have HGF : Hid (wz.grownBy (wz.setCells w.heap.size 0 [.int .i64 h0, .int .i64 h1, .int .i64 h2, .int .i64 h3, .int .i64 h4, .int .i64 h5, .slice a j c, .int .i64 h6]) (some w.heap.size)) := Lib.hid (setCells_grown _ _ _ _)
        go_wp2_with (refine wpList_store_mid rfl _ _ _ rfl _ _ _ rfl rfl HTh.out HLs.out HC1.out ?_)
        generalize wz.setCells w.heap.size 0 [.int .i64 h0, .int .i64 h1, .int .i64 h2, .int .i64 h3, .int .i64 h4, .int .i64 h5, .slice a j c, .int .i64 h6] = yF at *
        have ⟨p0, p1, p2, p3, p4, p5, p6, p7⟩ := HBF.out.n8
        have HP : Hid (RParseS xs w (.returned (.tuple #[.agg #[.int .i64 h0, .int .i64 h1, .int .i64 h2, .int .i64 h3, .int .i64 h4, .int .i64 h5, .slice a j c, .int .i64 h6], .bool true])) yF) := Lib.hid (.inr ⟨_, HYes.out, _, rfl, HE2.out.grown HGF.out (fun k hk => by injection hk with hk; omega), a, j, c, rfl, OwnNds.mono (OwnNds.kept HOn2.out HGF.out (fun k hk => by injection hk with hk; omega)) (by omega), HI.out⟩)
        clear HTh HLs HC1 HBF HGF
        refine bodyPost_ret (v := .tuple #[.agg #[.int .i64 h0, .int .i64 h1, .int .i64 h2, .int .i64 h3, .int .i64 h4, .int .i64 h5, .slice a j c, .int .i64 h6], .bool true]) (by simp [results, Tryz.results15, go_sem, p0, p1, p2, p3, p4, p5, p6, p7]) rfl ?_
        exact HP.out
    case pos =>
    have hj1 : (j : Int) < (M : Int) := by omega
    have hsk := fun w' => slice_from ax xs.length cx (At : Int) (by omega) (by omega) w'
    rw [Int.toNat_natCast] at hsk
    go_wp2_with fail
    clear hsk q7
    refine (rread11_any xs At hAtl _ wr ((HB.out.ext HE.out).drop hAtl)).mono ?_
    rintro e w4 ⟨i, nm, kd, fl, ow, pl, na, nm2, nc, wd, qu, sd, fa, tk, vk, vn, vs, va, vm, vc, n4, rfl, hE4, hq4⟩
    have eA := (Ext.refl w4).alloc (.cells #[.string i, .string nm, .int .u8 kd, .int .i64 fl, .int .i64 ow, .int .i64 pl, .slice na nm2 nc, .int .i64 wd, .int .i64 qu, .int .u8 sd, .int .i64 fa, .int .i64 tk, .int .u8 vk, .int .i64 vn, .string vs, .slice va vm vc] 59)
    have bA := BoxL.new w4 [.string i, .string nm, .int .u8 kd, .int .i64 fl, .int .i64 ow, .int .i64 pl, .slice na nm2 nc, .int .i64 wd, .int .i64 qu, .int .u8 sd, .int .i64 fa, .int .i64 tk, .int .u8 vk, .int .i64 vn, .string vs, .slice va vm vc] 59
    have HE4 := Lib.hid (hE4.trans eA)
    have BN := Lib.hid bA
    have hnl := bA.lt
    have HQ4 := Lib.hid hq4
    have EA := Lib.hid eA
    have hz4 := hE4.size
    have hza := eA.size
    clear eA bA hq4 hE4
    go_upto_region 9 with (fail)
    generalize w4.alloc (.cells #[.string i, .string nm, .int .u8 kd, .int .i64 fl, .int .i64 ow, .int .i64 pl, .slice na nm2 nc, .int .i64 wd, .int .i64 qu, .int .u8 sd, .int .i64 fa, .int .i64 tk, .int .u8 vk, .int .i64 vn, .string vs, .slice va vm vc] 59) = w5 at *
    have HE5 := Lib.hid (HE.out.trans HE4.out)
    have HPB5 := Lib.hid (HPB.out.ext HE4.out)
    have HSB5 := Lib.hid (HSB.out.ext HE4.out)
    have HOn5 := Lib.hid (HOn.out.ext HE4.out)
    have HC75 : Hid (w5.cell? ⟨g1, 7, none⟩ = some (.int .i64 (M : Int))) := Lib.hid ((HE4.out.cell (p := ⟨g1, 7, none⟩) (by show g1 < wr.heap.size; omega)).trans HC7.out)
    have HRo : Hid (∀ k, (Value.slice a j c).ownBlock = some k → SB + 1 ≤ k ∧ k < wr.heap.size) := Lib.hid (fun k hk => HOn.out.row_lt k hk)
    clear HE HPB HSB HOn HC7
    rcases HQ4.out with ⟨hno, rfl⟩ | ⟨nd, A4, hyes, hBA, hAl4, hn0, hcl, hon, hot, hwf⟩
    · have HNo : Hid (parseS xs = none) := Lib.hid (by
        rw [rsn_go HY.out hM48, readM_none rnd (i := j + 1) (by rw [readM_snoc, HRd.out, Option.bind_some, hno]; rfl) (by omega)]; rfl)
      clear hno HQ4 HRd
      go_upto_region 10 with (fail)
      clear hj1
      have HTh : Hid (w5.there w.heap.size 0 (#[.int .i64 0, .int .i64 0, .int .i64 0, .int .i64 0, .int .i64 0, .int .i64 0, .slice none 0 0, .int .i64 0] : Array Value).size) := Lib.hid (HPB5.out.there (by simp [z8]))
      have HLs : Hid ((Tryz.prog.info? 26).map (·.size) = some (#[.int .i64 0, .int .i64 0, .int .i64 0, .int .i64 0, .int .i64 0, .int .i64 0, .slice none 0 0, .int .i64 0] : Array Value).size) := Lib.hid info_state
      have HC1 : Hid ((#[.int .i64 0, .int .i64 0, .int .i64 0, .int .i64 0, .int .i64 0, .int .i64 0, .slice none 0 0, .int .i64 0] : Array Value).all (·.oneCell') = true) := Lib.hid (by simp [Value.oneCell'])
      have HBF : Hid (BoxL (w5.setCells w.heap.size 0 [.int .i64 0, .int .i64 0, .int .i64 0, .int .i64 0, .int .i64 0, .int .i64 0, .slice none 0 0, .int .i64 0]) w.heap.size [.int .i64 0, .int .i64 0, .int .i64 0, .int .i64 0, .int .i64 0, .int .i64 0, .slice none 0 0, .int .i64 0]) := Lib.hid (HPB5.out.setAll rfl)
      have HGF : Hid (w5.grownBy (w5.setCells w.heap.size 0 [.int .i64 0, .int .i64 0, .int .i64 0, .int .i64 0, .int .i64 0, .int .i64 0, .slice none 0 0, .int .i64 0]) (some w.heap.size)) := Lib.hid (setCells_grown _ _ _ _)
      go_wp2_with (refine wpList_store_mid rfl _ _ _ rfl _ _ _ rfl rfl HTh.out HLs.out HC1.out ?_)
      generalize w5.setCells w.heap.size 0 [.int .i64 0, .int .i64 0, .int .i64 0, .int .i64 0, .int .i64 0, .int .i64 0, .slice none 0 0, .int .i64 0] = yF at *
      have ⟨p0, p1, p2, p3, p4, p5, p6, p7⟩ := HBF.out.n8
      have HP : Hid (RParseS xs w (.returned (.tuple #[.agg #[.int .i64 0, .int .i64 0, .int .i64 0, .int .i64 0, .int .i64 0, .int .i64 0, .slice none 0 0, .int .i64 0], .bool false])) yF) := Lib.hid (.inl ⟨HNo.out, rfl, HE5.out.grown HGF.out (fun k hk => by injection hk with hk; omega)⟩)
      clear HTh HLs HC1 HBF HGF
      refine bodyPost_ret (v := .tuple #[.agg #[.int .i64 0, .int .i64 0, .int .i64 0, .int .i64 0, .int .i64 0, .int .i64 0, .slice none 0 0, .int .i64 0], .bool false]) (by simp [results, Tryz.results15, go_sem, p0, p1, p2, p3, p4, p5, p6, p7]) rfl ?_
      exact HP.out
    have hkz : ((n4 : Int) == 0) = false := by simp; omega
    have hadd : IntKind.i64.wrap ((At : Int) + (n4 : Int)) = (A4 : Int) := by rw [IntWalk.i64_in _ (by omega)]; omega
    have HRd2 : Hid (readM rnd (j + 1) (xs.drop A) = some (l ++ [nd], xs.drop A4)) := Lib.hid (by rw [readM_snoc, HRd.out, Option.bind_some, hyes]; rfl)
    have hcl16 : ([.string i, .string nm, .int .u8 kd, .int .i64 fl, .int .i64 ow, .int .i64 pl, .slice na nm2 nc, .int .i64 wd, .int .i64 qu, .int .u8 sd, .int .i64 fa, .int .i64 tk, .int .u8 vk, .int .i64 vn, .string vs, .slice va vm vc] : List Value).length = 16 := rfl
    have HN1 : Hid (∀ u, u ∈ ([.string i, .string nm, .int .u8 kd, .int .i64 fl, .int .i64 ow, .int .i64 pl, .slice na nm2 nc, .int .i64 wd, .int .i64 qu, .int .u8 sd, .int .i64 fa, .int .i64 tk, .int .u8 vk, .int .i64 vn, .string vs, .slice va vm vc] : List Value) → u.oneCell' = true) := Lib.hid (by simp [Value.oneCell'])
    have HCl := Lib.hid hcl
    have HNo2 := Lib.hid (hon.ext EA.out)
    have HNt := Lib.hid (hot.ext EA.out)
    have HWf := Lib.hid hwf
    clear hyes hBA HRd HQ4 hcl hon hot hwf
    obtain ⟨CN, hCN⟩ : ∃ CN : List Value, CN = [.string i, .string nm, .int .u8 kd, .int .i64 fl, .int .i64 ow, .int .i64 pl, .slice na nm2 nc, .int .i64 wd, .int .i64 qu, .int .u8 sd, .int .i64 fa, .int .i64 tk, .int .u8 vk, .int .i64 vn, .string vs, .slice va vm vc] := ⟨_, rfl⟩
    rw [← hCN] at BN HN1 HCl hcl16
    have HLd := Lib.hid BN.out.range
    have HLi : Hid ((Tryz.prog.info? 59).map (·.size) = some CN.length) := Lib.hid (by rw [hcl16]; exact info_ndL)
    have ⟨p0, p1, p2, p3, p4, p5, p6, p7⟩ := HSB5.out.n8
    have s6 := HSB5.out.free 6
    have HLen : Hid (CN.length = 16) := Lib.hid hcl16
    have HCN := Lib.hid hCN
    clear hCN hcl16
    obtain ⟨cs, hcs, hrow, hin⟩ := id HOn5.out
    rw [hlen] at hrow
    have HRow := Lib.hid hrow
    have HCs := Lib.hid hcs
    have HIn := Lib.hid hin
    have HLn := Lib.hid hlen
    clear hcs hrow hin HOn5 hlen
    have hRA : Hid ((w5.alloc (.cells CN.toArray 59)).rangeAt w5.heap.size 0 CN) := Lib.hid (BoxL.new w5 CN _).range
    have eB := Lib.hid ((Ext.refl w5).alloc (.cells CN.toArray 59))
    have hzb : (w5.alloc (.cells CN.toArray 59)).heap.size = w5.heap.size + 1 := by simp
    have HRow6 : Hid ((w5.alloc (.cells CN.toArray 59)).ownsRow (SB + 1) 59 16 (.slice a j c) j cs.flatten) := Lib.hid (HRow.out.alloc _)
    have hcn16 := HLen.out
    go_upto_region 11 with (fail)
    go_wp2_with (first | (refine wpList_load_mid rfl _ _ rfl _ _ rfl _ _ HLd.out Tryz.underlying59 rfl HLi.out ?_) | (at_builtin; go_loud (rw [rfoldl16 HLen.out]; refine wpList_appOneL elemnodeR rfl _ _ rfl rfl HRow6.out rfl hRA.out HLen.out HN1.out (by omega) (by omega) (by omega) ?_)))
    clear hcn16
    intro v6 w6 hown6 hgrow6 hat6
    obtain ⟨gg, cap6, rfl⟩ : ∃ gg cap6, v6 = .slice (some ⟨gg, 0, none⟩) (j + 1) cap6 := by
      rcases hown6.2 with ⟨-, q⟩ | ⟨g, cap', cur, q, -⟩
      · omega
      · exact ⟨g, cap', q⟩
    have hb6 := (HSB5.out.ext eB.out).kept hgrow6 (fun e => by have := (HRo.out _ e).1; omega)
    have s6a := hb6.cell 6 _ rfl
    have s6b := hb6.free 6
    clear hb6
    have hgs := setOne_grown w6 SB 6 (.slice (some ⟨gg, 0, none⟩) (j + 1) cap6)
    have HE6 : Hid (Ext w (w6.setCell ⟨SB, 6, none⟩ (.slice (some ⟨gg, 0, none⟩) (j + 1) cap6))) := Lib.hid (((HE5.out.trans eB.out).grown hgrow6 (fun k hk => by have := (HRo.out k hk).1; omega)).grown hgs (fun k hk => by injection hk with hk; omega))
    have HPB6 := Lib.hid (((HPB5.out.ext eB.out).kept hgrow6 (fun e => by have := (HRo.out _ e).1; omega)).kept hgs (fun e => by injection e with e; omega))
    have HSB6 : Hid (BoxL (w6.setCell ⟨SB, 6, none⟩ (.slice (some ⟨gg, 0, none⟩) (j + 1) cap6)) SB [.int .i64 h0, .int .i64 h1, .int .i64 h2, .int .i64 h3, .int .i64 h4, .int .i64 h5, .slice (some ⟨gg, 0, none⟩) (j + 1) cap6, .int .i64 h6]) := Lib.hid (((HSB5.out.ext eB.out).kept hgrow6 (fun e => by have := (HRo.out _ e).1; omega)).set 6 (by simp) _)
    have HC76 : Hid ((w6.setCell ⟨SB, 6, none⟩ (.slice (some ⟨gg, 0, none⟩) (j + 1) cap6)).cell? ⟨g1, 7, none⟩ = some (.int .i64 (M : Int))) := Lib.hid ((hgs.cell_far ⟨g1, 7, none⟩ (by show g1 < w6.heap.size; have := hgrow6.size; omega) (fun e => by injection e with e; have : SB = g1 := e.symm; omega)).trans ((hgrow6.cell_far ⟨g1, 7, none⟩ (by show g1 < (w5.alloc (.cells CN.toArray 59)).heap.size; omega) (fun e => by have : SB + 1 ≤ g1 := (HRo.out _ e.symm).1; omega)).trans ((eB.out.cell (p := ⟨g1, 7, none⟩) (by show g1 < w5.heap.size; omega)).trans HC75.out)))
    have hon6 : OwnNds 59 3 43 (SB + 1) (w6.setCell ⟨SB, 6, none⟩ (.slice (some ⟨gg, 0, none⟩) (j + 1) cap6)) (.slice (some ⟨gg, 0, none⟩) (j + 1) cap6) (l ++ [nd]) := by
      have hw : OwnNds 59 3 43 (SB + 1) w6 (.slice (some ⟨gg, 0, none⟩) (j + 1) cap6) (l ++ [nd]) := by
        obtain ⟨Fp, e6⟩ := HNt.out
        refine OwnNds.snoc (w := w5.alloc (.cells CN.toArray 59)) (v := .slice a j c) HCs.out (fun i hi hc => (HIn.out i hi hc).keep eB.out.grownBy (fun b hb => by cases hb) (fun b hb => .inl hb)) ?_ (by rw [HLn.out]; exact hown6) hgrow6 ?_
        · refine ⟨na, nm2, nc, _, _, _, _, Fp, HCl.out, (HNo2.out.ext eB.out).mono (by omega), fun b hb e => ?_, (e6.ext eB.out).mono (by omega), fun b hb e => ?_, HWf.out⟩
          · have q1 := (World.ownsRow.lt HNo2.out b hb).1
            have q2 := (HRo.out b e).2
            omega
          · have q1 := (e6.bounds b hb).1
            have q2 := (HRo.out b e).2
            omega
        · rcases hat6 with q | q
          · exact .inl q
          · exact .inr (q.trans (by rw [hzb]))
      exact hw.kept hgs (fun k hk => by injection hk with hk; omega)
    have HOn6 := Lib.hid hon6
    clear hon6 hgs hown6 hgrow6 hat6 HRow6 HRow hRA eB hzb HCl HNo2 HNt HWf HLd HLi HLen HN1 HCN HCs HIn HLn HRo HE5 HPB5 HSB5 HC75 BN EA HE4 p0 p1 p2 p3 p4 p5 p6 p7
    go_upto_region 12 with (fail)
    clear s6a s6b s6
    generalize w6.setCell ⟨SB, 6, none⟩ (.slice (some ⟨gg, 0, none⟩) (j + 1) cap6) = w7 at *
    go_wp2
    go_roundw
    case rel => exact ⟨j + 1, A4, _, _, _, by omega, by first | rfl | (rw [hadd]), by go_num, hAl4, HRd2, HE6, HPB6, HSB6, HOn6, HC76⟩
    case measure => simp [intOf]; omega
end Go.Proofs.YtdienbcjfljjnaaGreatDoor
