/- Walks: snap's reader: a node. -/
import Derived.Test.YtdienbcjfljjnaaGreatDoorSnRm
import Derived.Test.YtdienbcjfljjnaaGreatDoorSnI
import Derived.Test.YtdienbcjfljjnaaGreatDoorSnB
import Derived.Test.YtdienbcjfljjnaaGreatDoorFrgM
import Derived.Deep.AppendLies
open Go.RowKit Go.Shelf
namespace Go.Proofs.YtdienbcjfljjnaaGreatDoor
open Go Go.Proofs Fm

theorem nst_new (w : World) (R : Nat) (hR : R < w.heap.size) : NSt w (((w.alloc (.cells #[.string { data := #[] }, .string { data := #[] }, .int .u8 0, .int .i64 0, .int .i64 0, .int .i64 0, .slice none 0 0, .int .i64 0, .int .i64 0, .int .u8 0, .int .i64 0, .int .i64 0, .int .u8 0, .int .i64 0, .string { data := #[] }, .slice none 0 0] 59)).alloc (.cells #[.string { data := #[] }, .string { data := #[] }, .int .u8 0, .int .i64 0, .int .i64 0, .int .i64 0, .slice none 0 0, .int .i64 0, .int .i64 0, .int .u8 0, .int .i64 0, .int .i64 0, .int .u8 0, .int .i64 0, .string { data := #[] }, .slice none 0 0] 59)).alloc (.cells #[.int .i64 0, .int .i64 0] 116)) R ndZ ndZ [.int .i64 0, .int .i64 0] := by
  have s1 : (w.alloc (.cells #[.string { data := #[] }, .string { data := #[] }, .int .u8 0, .int .i64 0, .int .i64 0, .int .i64 0, .slice none 0 0, .int .i64 0, .int .i64 0, .int .u8 0, .int .i64 0, .int .i64 0, .int .u8 0, .int .i64 0, .string { data := #[] }, .slice none 0 0] 59)).heap.size = w.heap.size + 1 := by simp
  have s2 : ((w.alloc (.cells #[.string { data := #[] }, .string { data := #[] }, .int .u8 0, .int .i64 0, .int .i64 0, .int .i64 0, .slice none 0 0, .int .i64 0, .int .i64 0, .int .u8 0, .int .i64 0, .int .i64 0, .int .u8 0, .int .i64 0, .string { data := #[] }, .slice none 0 0] 59)).alloc (.cells #[.string { data := #[] }, .string { data := #[] }, .int .u8 0, .int .i64 0, .int .i64 0, .int .i64 0, .slice none 0 0, .int .i64 0, .int .i64 0, .int .u8 0, .int .i64 0, .int .i64 0, .int .u8 0, .int .i64 0, .string { data := #[] }, .slice none 0 0] 59)).heap.size = w.heap.size + 1 + 1 := by simp
  have b1 := BoxL.new w [.string { data := #[] }, .string { data := #[] }, .int .u8 0, .int .i64 0, .int .i64 0, .int .i64 0, .slice none 0 0, .int .i64 0, .int .i64 0, .int .u8 0, .int .i64 0, .int .i64 0, .int .u8 0, .int .i64 0, .string { data := #[] }, .slice none 0 0] 59
  have b2 := BoxL.new (w.alloc (.cells #[.string { data := #[] }, .string { data := #[] }, .int .u8 0, .int .i64 0, .int .i64 0, .int .i64 0, .slice none 0 0, .int .i64 0, .int .i64 0, .int .u8 0, .int .i64 0, .int .i64 0, .int .u8 0, .int .i64 0, .string { data := #[] }, .slice none 0 0] 59)) [.string { data := #[] }, .string { data := #[] }, .int .u8 0, .int .i64 0, .int .i64 0, .int .i64 0, .slice none 0 0, .int .i64 0, .int .i64 0, .int .u8 0, .int .i64 0, .int .i64 0, .int .u8 0, .int .i64 0, .string { data := #[] }, .slice none 0 0] 59
  have b3 := BoxL.new ((w.alloc (.cells #[.string { data := #[] }, .string { data := #[] }, .int .u8 0, .int .i64 0, .int .i64 0, .int .i64 0, .slice none 0 0, .int .i64 0, .int .i64 0, .int .u8 0, .int .i64 0, .int .i64 0, .int .u8 0, .int .i64 0, .string { data := #[] }, .slice none 0 0] 59)).alloc (.cells #[.string { data := #[] }, .string { data := #[] }, .int .u8 0, .int .i64 0, .int .i64 0, .int .i64 0, .slice none 0 0, .int .i64 0, .int .i64 0, .int .u8 0, .int .i64 0, .int .i64 0, .int .u8 0, .int .i64 0, .string { data := #[] }, .slice none 0 0] 59)) [.int .i64 0, .int .i64 0] 116
  rw [s1] at b2
  rw [s2] at b3
  exact ⟨grown_ext ((((Ext.refl w).alloc _).alloc _).alloc _) _, (b1.ext ((Ext.refl _).alloc _)).ext ((Ext.refl _).alloc _), b2.ext ((Ext.refl _).alloc _), b3, hR⟩
theorem info_ndJ : (Tryz.prog.info? 59).map (·.size) = some 16 := by kernel_rfl
theorem info_int : (Tryz.prog.info? 3).map (fun i => (i.zero, i.size, i.bytes)) = some (some (.int .i64 0), 1, 8) := by kernel_rfl

theorem tvalS_any (v : Value) (xs : List UInt8) (w0 w : World) (hE : Ext w0 w) (h : Bytes w0 v xs) :
    Calls Tryz.prog 92 #[v] w fun e w' => ∃ (k n : Int) (s : ByteArray) (a : Option Addr) (m c : Nat) (ar : Option Addr) (mr cr : Nat) (ee : Int), e = .returned (.tuple #[.agg #[.int .u8 k, .int .i64 n, .string s, .slice a m c], .slice ar mr cr, .int .i64 ee]) ∧ Ext w w' ∧
      ((takeV' xs = none ∧ ee = 30 ∧ Bytes w0 (.slice ar mr cr) []) ∨ ∃ t r, takeV' xs = some (t, r) ∧ ee = 0 ∧ Bytes w0 (.slice ar mr cr) r ∧ OwnT 43 w' w.heap.size t (.agg #[.int .u8 k, .int .i64 n, .string s, .slice a m c])) := by
  refine (tval_from v xs w0 w hE h).mono ?_
  rintro e w' ⟨hE1, ⟨h1, rfl⟩ | ⟨t, r, rv, k, n, s, a, m, c, h1, h2, h3, rfl⟩⟩
  · exact ⟨_, _, _, _, _, _, _, _, _, _, rfl, hE1, .inl ⟨h1, rfl, Bytes.nil _⟩⟩
  · obtain ⟨ar, cr, rfl, -⟩ := id h2
    exact ⟨_, _, _, _, _, _, _, _, _, _, rfl, hE1, .inr ⟨t, r, h1, rfl, h2, h3⟩⟩

/-- What a node comes to. -/
def NodePost (w0 w : World) (R : Nat) (s : Option (List UInt8)) (e : Ending) (w' : World) : Prop :=
  ∃ (i nm : ByteArray) (kd fl ow pl : Int) (a : Option Addr) (m c : Nat) (wd qu st fa tk vk vn : Int) (vs : ByteArray) (va : Option Addr) (vm vc : Nat),
    e = .returned (.agg #[.string i, .string nm, .int .u8 kd, .int .i64 fl, .int .i64 ow, .int .i64 pl, .slice a m c, .int .i64 wd, .int .i64 qu, .int .u8 st, .int .i64 fa, .int .i64 tk, .int .u8 vk, .int .i64 vn, .string vs, .slice va vm vc]) ∧
    RdS w0 w' R (nodeS s) ∧ w.grownBy w' (some R) ∧
    ∀ r, nodeS s = some r → ∃ xs n, s = some xs ∧ readNd xs = some (n, r) ∧ ndB n = true ∧ [.string i, .string nm, .int .u8 kd, .int .i64 fl, .int .i64 ow, .int .i64 pl, .slice a m c, .int .i64 wd, .int .i64 qu, .int .u8 st, .int .i64 fa, .int .i64 tk, .int .u8 vk, .int .i64 vn, .string vs, .slice va vm vc] = ndCells n (.slice a m c) (.int .u8 vk) (.int .i64 vn) (.string vs) (.slice va vm vc) ∧
      OwnN 3 w.heap.size w' (.slice a m c) n.after ∧ OwnT 43 w' w.heap.size n.val (.agg #[.int .u8 vk, .int .i64 vn, .string vs, .slice va vm vc]) ∧ ndWf n

/-- What a good node comes to. -/
def NdGood (w : World) (s : Option (List UInt8)) (TA TB : List UInt8) (c0 c1 c2 c3 : Int) (a : Option Addr) (m c : Nat) (f0 f1 f2 f3 G vk vn : Int) (vs : ByteArray) (va : Option Addr) (vm vc : Nat) (W : World) : Prop :=
  ∀ r, nodeS s = some r → ∃ xs n, s = some xs ∧ readNd xs = some (n, r) ∧ ndB n = true ∧ ndV TA TB c0 c1 c2 c3 (.slice a m c) f0 f1 f2 f3 G (.int .u8 vk) (.int .i64 vn) (.string vs) (.slice va vm vc) = ndCells n (.slice a m c) (.int .u8 vk) (.int .i64 vn) (.string vs) (.slice va vm vc) ∧
      OwnN 3 w.heap.size W (.slice a m c) n.after ∧ OwnT 43 W w.heap.size n.val (.agg #[.int .u8 vk, .int .i64 vn, .string vs, .slice va vm vc]) ∧ ndWf n

set_option maxRecDepth 100000 in
set_option maxHeartbeats 32000000 in
theorem node_any {w0 w : World} {R : Nat} {s : Option (List UInt8)} (h : RdS w0 w R s) :
    Calls Tryz.prog 48 #[.pointer (some ⟨R, 0, none⟩)] w (NodePost w0 w R s) := by
  have hRl := h.lt
  have hRo := h.old
  have HZ := Lib.hid (nst_new w R hRl)
  have HR0 := Lib.hid (h.then ((((Ext.refl w).alloc (.cells #[.string { data := #[] }, .string { data := #[] }, .int .u8 0, .int .i64 0, .int .i64 0, .int .i64 0, .slice none 0 0, .int .i64 0, .int .i64 0, .int .u8 0, .int .i64 0, .int .i64 0, .int .u8 0, .int .i64 0, .string { data := #[] }, .slice none 0 0] 59)).alloc (.cells #[.string { data := #[] }, .string { data := #[] }, .int .u8 0, .int .i64 0, .int .i64 0, .int .i64 0, .slice none 0 0, .int .i64 0, .int .i64 0, .int .u8 0, .int .i64 0, .int .i64 0, .int .u8 0, .int .i64 0, .string { data := #[] }, .slice none 0 0] 59)).alloc (.cells #[.int .i64 0, .int .i64 0] 116)))
  have hTA : (textR 400 s).1.length ≤ 400 := by have := textR_len 400 (by omega) s; omega
  have hTB : (textR 20 (textR 400 s).2).1.length ≤ 20 := by have := textR_len 20 (by omega) (textR 400 s).2; omega
  clear h
  go_enter Tryz.func48, Tryz.ntmps48
  go_wp2_with fail
  generalize ((w.alloc (.cells #[.string { data := #[] }, .string { data := #[] }, .int .u8 0, .int .i64 0, .int .i64 0, .int .i64 0, .slice none 0 0, .int .i64 0, .int .i64 0, .int .u8 0, .int .i64 0, .int .i64 0, .int .u8 0, .int .i64 0, .string { data := #[] }, .slice none 0 0] 59)).alloc (.cells #[.string { data := #[] }, .string { data := #[] }, .int .u8 0, .int .i64 0, .int .i64 0, .int .i64 0, .slice none 0 0, .int .i64 0, .int .i64 0, .int .u8 0, .int .i64 0, .int .i64 0, .int .u8 0, .int .i64 0, .string { data := #[] }, .slice none 0 0] 59)).alloc (.cells #[.int .i64 0, .int .i64 0] 116) = W3 at *
  refine (stext_any 400 (by unfold isI64; omega) HR0.out).mono ?_
  rintro e w4 ⟨rfl, hr4, hg4⟩
  have H4 := Lib.hid (HZ.out.step hg4)
  have HR4 := Lib.hid hr4
  clear hr4 hg4 HZ HR0
  go_wp2_with fail
  refine (stext_any 20 (by unfold isI64; omega) HR4.out).mono ?_
  rintro e w5 ⟨rfl, hr5, hg5⟩
  have h5 := H4.out.step hg5
  have hgV := h5.bv.free
  have g0 := hgV 0
  have g1 := hgV 1
  have hbv := h5.bv
  unfold ndZ at hbv
  have ⟨p0, p1, p2, p3, p4, p5, p6, p7, p8, p9, p10, p11, p12, p13, p14, p15⟩ := hbv.n16
  have HR5 := Lib.hid hr5
  have H5 := Lib.hid h5
  clear h5 hr5 hg5 H4 HR4 hgV hbv
  have HTA := Lib.hid hTA
  have HTB := Lib.hid hTB
  have hAe : textR 400 s = sA s := rfl
  rw [hAe]
  have hBe : textR 20 (sA s).2 = sB s := rfl
  rw [hBe]
  rw [show textR 20 (textR 400 s).2 = sB s from rfl] at HR5 HTB
  rw [hAe] at HTA
  clear hTA hTB hAe hBe
  generalize hA : (sA s).1 = TA at *
  generalize hB : (sB s).1 = TB at *
  have HA := Lib.hid hA
  have HB := Lib.hid hB
  clear hA hB
  go_wp2_with fail
  have hj1 : J1 w R TA TB [] ((w5.setCell ⟨w.heap.size + 1, 0, none⟩ (.string (str TA))).setCell ⟨w.heap.size + 1, 1, none⟩ (.string (str TB))) := (H5.out.setV 0 (by simp [ndZ]) (.string (str TA))).setV 1 (by simp [ndZ]) (.string (str TB))
  have hr6 := (HR5.out.kept (setOne_grown w5 (w.heap.size + 1) 0 (.string (str TA))) (fun k hk => by injection hk with hk; omega)).kept (setOne_grown (w5.setCell ⟨w.heap.size + 1, 0, none⟩ (.string (str TA))) (w.heap.size + 1) 1 (.string (str TB))) (fun k hk => by injection hk with hk; omega)
  have HJ1 := Lib.hid hj1
  have HR6 := Lib.hid hr6
  clear hj1 hr6 H5 HR5 g0 g1 p0 p1 p2 p3 p4 p5 p6 p7 p8 p9 p10 p11 p12 p13 p14 p15
  generalize (w5.setCell ⟨w.heap.size + 1, 0, none⟩ (.string (str TA))).setCell ⟨w.heap.size + 1, 1, none⟩ (.string (str TB)) = W6 at *
  refine (firstN_any (w.heap.size + 1) (w.heap.size + 1 + 1) W6).mono ?_
  rintro e w7 ⟨FB, rfl, hFB, hF7, -, hE7⟩
  have hj7 := NSt.then HJ1.out hE7
  have HJ7 : Hid (J1 w R TA TB [] w7) := Lib.hid hj7
  have HR7 := Lib.hid (HR6.out.then hE7)
  have HF7 := Lib.hid hF7
  have hlb := hj7.bk.lt
  have hlb6 : w.heap.size + 1 + 1 < W6.heap.size := (show NSt w W6 R _ _ _ from HJ1.out).bk.lt
  have hzB : FB < w7.heap.size := hF7.1
  clear hj7 hF7 HJ1 HR6
  go_wp2_with fail
  refine (all_any (firstF (w.heap.size + 1) (w.heap.size + 1 + 1)) FB (J1 w R TA TB) HR7.out HJ7.out (by simp [firstF]) (by omega) HF7.out (fun ns a b hj hE => NSt.then hj hE) (fun ns a b n f hj hf hg _ => J1_step hj hf hg) (fun ns a f hj hf => J1_cell hj hf) (fun f hf => by have := first_far hf; omega)).mono ?_
  rw [firstF_bnd]
  rintro e w8 ⟨rfl, hr8, hj8⟩
  rw [show allR fF (sB s).2 = sC s from rfl] at hr8 hj8
  obtain ⟨c0, c1, c2, c3, hC⟩ := four (show (sC s).1.length = 4 from allR_len _ _)
  have HCi : Hid (isI64 c0 ∧ isI64 c1 ∧ isI64 c2 ∧ isI64 c3) := Lib.hid (by
    have := allR_i64 fF (sB s).2
    rw [show allR fF (sB s).2 = sC s from rfl, hC] at this
    exact ⟨this _ (by simp), this _ (by simp), this _ (by simp), this _ (by simp)⟩)
  have hc0 : c0 = 0 ∨ (0 ≤ c0 ∧ c0 ≤ 2) := by
    have : (sC s).1 = (numR 0 2 (sB s).2).1 :: (allR [(0, 12), (-1, 4799), (-1, 999999)] (numR 0 2 (sB s).2).2).1 := rfl
    rw [hC] at this
    injection this with this _
    rw [this]
    exact numR_range 0 2 _
  rw [hC] at hj8
  have HJ8 : Hid (NSt w w8 R ndZ (ndV TA TB 0 c1 c2 c3 zV 0 0 0 0 0 (.int .u8 0) (.int .i64 0) (.string { data := #[] }) zV) [.int .i64 c0, .int .i64 0]) := Lib.hid hj8
  have HR8 := Lib.hid hr8
  have HC := Lib.hid hC
  clear hC hj8 hr8 HJ7 HR7 HF7 hzB hlb hlb6 hFB hE7
  go_wp2_with fail
  refine (snum_any 0 21 HR8.out).mono ?_
  rw [show numR 0 21 (sC s).2 = sD s from rfl]
  rintro e w9 ⟨rfl, hr9, hg9⟩
  have HJ9 := Lib.hid (HJ8.out.step hg9)
  have HR9 := Lib.hid hr9
  have hdr : (sD s).1 = 0 ∨ (0 ≤ (sD s).1 ∧ (sD s).1 ≤ 21) := numR_range 0 21 _
  obtain ⟨d, hd⟩ : ∃ d : Nat, (sD s).1 = (d : Int) := ⟨(sD s).1.toNat, by omega⟩
  rw [hd]
  have hd21 : d ≤ 21 := by omega
  have HD := Lib.hid hd
  have HE0 : Hid (sE s = repR 0 4799 d (sD s).2) := Lib.hid (by unfold sE; rw [hd]; rfl)
  generalize (sD s).2 = sd2 at *
  clear hr9 hg9 hdr hd HJ8 HR8
  go_wp2_with fail
  have hzN := HJ9.out.bk.lt
  go_loopw [19] (fun i wr => ∃ (j : Nat) (a : Option Addr) (m c : Nat), j ≤ d ∧ i = .int .i64 j ∧ Hid (NSt w wr R ndZ (ndV TA TB 0 c1 c2 c3 (.slice a m c) 0 0 0 0 0 (.int .u8 0) (.int .i64 0) (.string { data := #[] }) zV) [.int .i64 c0, .int .i64 0]) ∧ Hid (RdS w0 wr R (repR 0 4799 j sd2).2) ∧ Hid (OwnN 3 (w.heap.size + 1 + 1 + 1) wr (.slice a m c) (repR 0 4799 j sd2).1)) (fun i _ => d - (intOf i).toNat)
  case atStart => exact ⟨0, none, 0, 0, by omega, rfl, HJ9, HR9, Lib.hid (OwnN.nil _ _ _)⟩
  case round =>
    clear HJ9 HR9 hzN
    obtain ⟨j, a, m, c, hj, rfl, HJ, HR, HO⟩ := hrel
    by_cases hlt : j < d
    · as_aux_lemma =>
      obtain ⟨i0, hi0, hz0, hz1, hz2⟩ := info_parts info_int
      have HXj := Lib.hid (repR_snoc 0 4799 j sd2)
      have hlen := repR_len 0 4799 j sd2
      generalize repR 0 4799 j sd2 = AJ at *
      obtain rfl : j = m := by have hO := HO.out; unfold OwnN at hO; rw [hlen] at hO; rcases hO.2 with ⟨e, e2⟩ | ⟨g, cap, cur, e, _⟩ <;> injection e <;> omega
      have hO : wr.ownsRow (w.heap.size + 1 + 1 + 1) 3 1 (.slice a j c) j (AJ.1.map (Value.int .i64)) := by have := HO.out; unfold OwnN at this; rw [hlen] at this; exact this
      have HOr := Lib.hid hO
      have hRo2 : ∀ k, (Value.slice a j c).ownBlock = some k → w.heap.size + 1 + 1 + 1 ≤ k := fun k hk => (hO.lt k hk).1
      have HRo := Lib.hid hRo2
      have HL1 : Hid (j + 1 ≤ maxLen) := Lib.hid (by unfold maxLen; omega)
      have hlr := HJ.out.bk.lt
      have hbv := HJ.out.bv
      unfold ndV at hbv
      have b6 := hbv.cell 6 _ rfl
      have z6 := hbv.free 6
      have HLn := Lib.hid hlen
      clear hO hRo2 hbv hlen
      obtain ⟨X, hX⟩ : ∃ X, X = (numR 0 4799 AJ.2).1 := ⟨_, rfl⟩
      have HX := Lib.hid hX
      go_wp2_with fail
      go_region_law (first
        | (refine step_append_lies _ (by rfl) _ _ _ (by rfl) (w.heap.size + 1 + 1 + 1) 3 i0 _ 1 8 Tryz.underlying57 hi0 hz0 hz1 hz2 rfl (by omega) (.slice a j c) j (AJ.1.map (Value.int .i64)) (by rfl) HR6.out ⟨w4.heap.size, 0, none⟩ 1 1 [.int .i64 (numR 0 4799 AJ.2).1] (by rfl) (by rfl) (World.news_of_block (cs := #[.int .i64 (numR 0 4799 AJ.2).1]) (t := 3) (fr := (0, 0)) (heap_alloc_new w4 _)) (by simp [Value.oneCell']) (by omega) HL1.out (by omega) (by simp; omega) (w4.heap.size + 1) (by simp) ?_
           intro gg cap6 w6 hown6 hgrow6 hat6 hlt6
           have S6 := (hgrow6.cell_far ⟨w.heap.size + 1, 6, none⟩ (by simp; omega) (fun e => by have := HRo.out _ e.symm; simp at this; omega)).trans ((((Ext.refl w4).alloc _).cell (p := ⟨w.heap.size + 1, 6, none⟩) hV4).trans S4)
           have S6' := (hgrow6.frozen_far ⟨w.heap.size + 1, 6, none⟩ (by simp; omega) (fun e => by have := HRo.out _ e.symm; simp at this; omega)).trans ((((Ext.refl w4).alloc _).frozen (p := ⟨w.heap.size + 1, 6, none⟩) hV4).trans S4'))
        | (go_simp
           go_at_call 47
           refine (snum_any 0 4799 (s := AJ.2) (w0 := w0) (R := R) ?_).mono ?_
           · first | exact HR.out | exact HR.out.then (Ext.refl _).drew | exact HR.out.then ((Ext.refl _).drewN _)
           rintro e w4 ⟨rfl, hr4, hg4⟩
           have hgE := grown_trans (grown_ext (Ext.refl wr).drew (some R)) hg4
           have hV4 : w.heap.size + 1 < w4.heap.size := by have := hgE.size; omega
           have S4 := (hgE.cell_far ⟨w.heap.size + 1, 6, none⟩ (by show w.heap.size + 1 < wr.heap.size; omega) (by simp; omega)).trans b6
           have S4' := (hgE.frozen_far ⟨w.heap.size + 1, 6, none⟩ (by show w.heap.size + 1 < wr.heap.size; omega) (by simp; omega)).trans z6
           have HR6 : Hid ((w4.alloc (.cells #[.int .i64 (numR 0 4799 AJ.2).1] 3)).ownsRow (w.heap.size + 1 + 1 + 1) 3 1 (.slice a j c) j (AJ.1.map (Value.int .i64))) := Lib.hid ((HOr.out.kept hgE (.inr (fun e => by have := HRo.out _ e; omega))).alloc _)
           have HR4 := Lib.hid hr4
           clear hr4 hg4))
      all_goals
        have hn6 := (((HJ.out.step hgE).then ((Ext.refl w4).alloc (.cells #[.int .i64 (numR 0 4799 AJ.2).1] 3))).far hgrow6 (fun k hk => by have := HRo.out k hk; omega)).setV 6 (by simp [ndV]) (.slice (some ⟨gg, 0, none⟩) (j + 1) cap6)
        have hr6 := ((HR4.out.then ((Ext.refl w4).alloc (.cells #[.int .i64 (numR 0 4799 AJ.2).1] 3))).kept hgrow6 (fun k hk => by have := HRo.out k hk; omega)).kept (setOne_grown w6 (w.heap.size + 1) 6 (.slice (some ⟨gg, 0, none⟩) (j + 1) cap6)) (fun k hk => by injection hk with hk; omega)
        have ho6 : OwnN 3 (w.heap.size + 1 + 1 + 1) (w6.setCell ⟨w.heap.size + 1, 6, none⟩ (.slice (some ⟨gg, 0, none⟩) (j + 1) cap6)) (.slice (some ⟨gg, 0, none⟩) (j + 1) cap6) (repR 0 4799 (j + 1) sd2).1 := by
          rw [HXj.out]
          have : OwnN 3 (w.heap.size + 1 + 1 + 1) w6 (.slice (some ⟨gg, 0, none⟩) (j + 1) cap6) (AJ.1 ++ [(numR 0 4799 AJ.2).1]) := by
            unfold OwnN; rw [List.length_append, List.map_append, HLn.out]; exact hown6
          exact this.kept (setOne_grown w6 (w.heap.size + 1) 6 (.slice (some ⟨gg, 0, none⟩) (j + 1) cap6)) (fun k hk => by injection hk with hk; omega)
        have hr6 : RdS w0 (w6.setCell ⟨w.heap.size + 1, 6, none⟩ (.slice (some ⟨gg, 0, none⟩) (j + 1) cap6)) R (repR 0 4799 (j + 1) sd2).2 := by rw [HXj.out]; exact hr6
        have HN6 : Hid (NSt w (w6.setCell ⟨w.heap.size + 1, 6, none⟩ (.slice (some ⟨gg, 0, none⟩) (j + 1) cap6)) R ndZ (ndV TA TB 0 c1 c2 c3 (.slice (some ⟨gg, 0, none⟩) (j + 1) cap6) 0 0 0 0 0 (.int .u8 0) (.int .i64 0) (.string { data := #[] }) zV) [.int .i64 c0, .int .i64 0]) := Lib.hid hn6
        have HR6 := Lib.hid hr6
        have HO6 := Lib.hid ho6
        generalize w6.setCell ⟨w.heap.size + 1, 6, none⟩ (.slice (some ⟨gg, 0, none⟩) (j + 1) cap6) = W6x at *
        clear hn6 hr6 ho6 hown6 hgrow6 hat6 hlt6 S6 S6' S4 S4' hgE hV4 HR4 hX b6 z6 HOr HRo HJ HR HO
        go_wp2
        go_roundw
        case rel => exact ⟨j + 1, _, _, _, by omega, by go_num, HN6, HR6, HO6⟩
        case measure => simp [intOf]; omega
    · as_aux_lemma =>
      have hjd : j = d := by omega
      have HRe : Hid (RdS w0 wr R (sE s).2) := Lib.hid (by rw [HE0.out, ← hjd]; exact HR.out)
      have HOe : Hid (OwnN 3 (w.heap.size + 1 + 1 + 1) wr (.slice a m c) (sE s).1) := Lib.hid (by rw [HE0.out, ← hjd]; exact HO.out)
      have hlb := HJ.out.bk.lt
      clear hjd HR HO
      go_wp2_with fail
      refine (lastN_any (w.heap.size + 1) (w.heap.size + 1 + 1) wr).mono ?_
      rintro e y1 ⟨FB2, rfl, hFB2, hF2, -, hE2⟩
      have HJ1 : Hid (J2 3 w R TA TB c1 c2 c3 (.slice a m c) (sE s).1 (.int .i64 c0) [] y1) := Lib.hid ⟨HJ.out.then hE2, HOe.out.ext hE2⟩
      have HR1 := Lib.hid (HRe.out.then hE2)
      have HF2 := Lib.hid hF2
      have hz2 := hE2.size
      clear hF2 HJ HRe HOe hE2
      go_wp2_with fail
      refine (all_any (lastF (w.heap.size + 1) (w.heap.size + 1 + 1)) FB2 (J2 3 w R TA TB c1 c2 c3 (.slice a m c) (sE s).1 (.int .i64 c0)) HR1.out HJ1.out (by simp [lastF]) (by omega) HF2.out (fun ns a b hj hE => ⟨hj.1.then hE, hj.2.ext hE⟩) (fun ns a b n f hj hf hg _ => J2_step hj hf hg) (fun ns a f hj hf => J2_cell hj hf) (fun f hf => by have := last_far hf; omega)).mono ?_
      rw [lastF_bnd]
      rintro e y2 ⟨rfl, hr2, hj2⟩
      rw [show allR fL (sE s).2 = sF s from rfl] at hr2 hj2
      obtain ⟨f0, f1, f2, f3, hF⟩ := four (show (sF s).1.length = 4 from allR_len _ _)
      have HFi : Hid (isI64 f0 ∧ isI64 f1 ∧ isI64 f2 ∧ isI64 f3) := Lib.hid (by
        have := allR_i64 fL (sE s).2
        rw [show allR fL (sE s).2 = sF s from rfl, hF] at this
        exact ⟨this _ (by simp), this _ (by simp), this _ (by simp), this _ (by simp)⟩)
      have hf2 : f2 = 0 ∨ (0 ≤ f2 ∧ f2 ≤ 6) := by
        have : (sF s).1 = (numR 0 40 (sE s).2).1 :: (numR 0 400 (numR 0 40 (sE s).2).2).1 :: (numR 0 6 (numR 0 400 (numR 0 40 (sE s).2).2).2).1 :: (allR [(0, 10)] (numR 0 6 (numR 0 400 (numR 0 40 (sE s).2).2).2).2).1 := rfl
        rw [hF] at this
        injection this with _ this
        injection this with _ this
        injection this with this _
        rw [this]
        exact numR_range 0 6 _
      rw [hF] at hj2
      obtain ⟨hn2, ho2⟩ := hj2
      have HN2 : Hid (NSt w y2 R ndZ (ndV TA TB 0 c1 c2 c3 (.slice a m c) f0 f1 0 f3 0 (.int .u8 0) (.int .i64 0) (.string { data := #[] }) zV) [.int .i64 c0, .int .i64 f2]) := Lib.hid hn2
      have HO2 := Lib.hid ho2
      have HR2 := Lib.hid hr2
      have HF := Lib.hid hF
      have hbv := HN2.out.bv
      unfold ndV at hbv
      have ⟨p0, p1, p2, p3, p4, p5, p6, p7, p8, p9, p10, p11, p12, p13, p14, p15⟩ := hbv.n16
      have g2 := HN2.out.bv.free 2
      have g9 := HN2.out.bv.free 9
      have k0 := HN2.out.bk.cell 0 _ rfl
      have k1 := HN2.out.bk.cell 1 _ rfl
      have hc00 : 0 ≤ c0 := by omega
      have hc01 : c0 ≤ 255 := by omega
      have hf00 : 0 ≤ f2 := by omega
      have hf01 : f2 ≤ 255 := by omega
      clear hn2 ho2 hr2 hF hbv HJ1 HR1 HF2 hc0 hf2 hz2 hFB2
      go_wp2_with fail
      have hn3 := (HN2.out.setV 2 (by simp [ndV]) (.int .u8 c0)).setV 9 (by simp [ndV]) (.int .u8 f2)
      have HN3 : Hid (NSt w ((y2.setCell ⟨w.heap.size + 1, 2, none⟩ (.int .u8 c0)).setCell ⟨w.heap.size + 1, 9, none⟩ (.int .u8 f2)) R ndZ (ndV TA TB c0 c1 c2 c3 (.slice a m c) f0 f1 f2 f3 0 (.int .u8 0) (.int .i64 0) (.string { data := #[] }) zV) [.int .i64 c0, .int .i64 f2]) := Lib.hid hn3
      have hgz : y2.grownBy ((y2.setCell ⟨w.heap.size + 1, 2, none⟩ (.int .u8 c0)).setCell ⟨w.heap.size + 1, 9, none⟩ (.int .u8 f2)) (some (w.heap.size + 1)) := grown_trans (setOne_grown _ _ _ _) (setOne_grown _ _ _ _)
      have HR3 := Lib.hid (HR2.out.kept hgz (fun k hk => by injection hk with hk; omega))
      have HO3 := Lib.hid (HO2.out.kept hgz (fun k hk => by injection hk with hk; omega))
      generalize (y2.setCell ⟨w.heap.size + 1, 2, none⟩ (.int .u8 c0)).setCell ⟨w.heap.size + 1, 9, none⟩ (.int .u8 f2) = y3 at *
      clear hn3 hgz g2 g9 k0 k1 HN2 HR2 HO2 p0 p1 p2 p3 p4 p5 p6 p7 p8 p9 p10 p11 p12 p13 p14 p15
      refine (snum_any 0 9223372036854775807 HR3.out).mono ?_
      rw [show numR 0 9223372036854775807 (sF s).2 = sG s from rfl]
      rintro e y4 ⟨rfl, hr4, hg4⟩
      have HN4 := Lib.hid (HN3.out.step hg4)
      have HO4 := Lib.hid (HO3.out.kept hg4 (fun k hk => by injection hk with hk; omega))
      have hbv := HN4.out.bv
      unfold ndV at hbv
      have p11 := hbv.cell 11 _ rfl
      have g11 := hbv.free 11
      have hGi : isI64 (sG s).1 := numR_i64 _ _ _
      obtain ⟨G, hG⟩ : ∃ G, G = (sG s).1 := ⟨_, rfl⟩
      rw [← hG]
      rw [← hG] at hGi
      have HG := Lib.hid hG
      have hgz := setOne_grown y4 (w.heap.size + 1) 11 (.int .i64 G)
      have hr5 := hr4.kept hgz (fun k hk => by injection hk with hk; omega)
      have HO5 := Lib.hid (HO4.out.kept hgz (fun k hk => by injection hk with hk; omega))
      have HN5 : Hid (NSt w (y4.setCell ⟨w.heap.size + 1, 11, none⟩ (.int .i64 G)) R ndZ (ndV TA TB c0 c1 c2 c3 (.slice a m c) f0 f1 f2 f3 G (.int .u8 0) (.int .i64 0) (.string { data := #[] }) zV) [.int .i64 c0, .int .i64 f2]) := Lib.hid (HN4.out.setV 11 (by simp [ndV]) (.int .i64 G))
      have HGi := Lib.hid hGi
      clear hbv hG hGi hr4 hg4 hgz HN3 HR3 HO3 HO4 HN4
      go_upto_region 12 with (fail)
      generalize y4.setCell ⟨w.heap.size + 1, 11, none⟩ (.int .i64 G) = y5 at *
      clear p11 g11
      as_aux_lemma =>
      obtain ⟨bv, ys, hF5, hys⟩ := hr5
      have hb5 := hF5.bytes
      obtain ⟨av, cv, rfl, -⟩ := id hb5
      have q0 := hF5.c0
      have HF5 := Lib.hid hF5
      have HB5 := Lib.hid hb5
      have HYS := Lib.hid hys
      generalize ys.length = ly at *
      clear hF5 hb5 hys
      go_wp2_with fail
      refine (tvalS_any _ ys w0 y5 HF5.out.ext HB5.out).mono ?_
      rintro e y6 ⟨vk, vn, vs, va, vm, vc, ar, mr, cr, ee, rfl, hE6, hTv⟩
      have HTv := Lib.hid hTv
      have HZ5 := Lib.hid HN5.out.bk.lt
      have HF6 := Lib.hid (HF5.out.then hE6)
      have HN6 := Lib.hid (HN5.out.then hE6)
      have HO6 := Lib.hid (HO5.out.ext hE6)
      have HE6 := Lib.hid hE6
      clear hTv hE6 HF5 HN5 HO5 q0
      go_upto_region 13 with (fail)
      have hE7 := (Ext.refl y6).alloc (.cells #[.int .u8 vk, .int .i64 vn, .string vs, .slice va vm vc] 43)
      have hbx := BoxL.new y6 [.int .u8 vk, .int .i64 vn, .string vs, .slice va vm vc] 43
      have HF7 := Lib.hid (HF6.out.then hE7)
      have HN7 := Lib.hid (HN6.out.then hE7)
      have HO7 := Lib.hid (HO6.out.ext hE7)
      have HE7 := Lib.hid hE7
      have hz6 := HN6.out.bk.lt
      generalize y6.alloc (.cells #[.int .u8 vk, .int .i64 vn, .string vs, .slice va vm vc] 43) = y7 at *
      have e0 := hbx.cell 0 _ rfl
      have e1 := hbx.cell 1 _ rfl
      have e2 := hbx.cell 2 _ rfl
      have e3 := hbx.cell 3 _ rfl
      have hbv := HN7.out.bv
      unfold ndV at hbv
      have p12 := hbv.cell 12 _ rfl
      have p13 := hbv.cell 13 _ rfl
      have p14 := hbv.cell 14 _ rfl
      have p15 := hbv.cell 15 _ rfl
      have g12 := hbv.free 12
      have g13 := hbv.free 13
      have g14 := hbv.free 14
      have g15 := hbv.free 15
      have q0 := HF7.out.c0
      have q0f := HF7.out.f0
      have hVR : w.heap.size + 1 ≠ R := by omega
      have HN8a := Lib.hid ((((HN7.out.setV 12 (by simp [ndV]) (.int .u8 vk)).setV 13 (by simp [ndV]) (.int .i64 vn)).setV 14 (by simp [ndV]) (.string vs)).setV 15 (by simp [ndV]) (.slice va vm vc))
      have hg4 : y7.grownBy ((((y7.setCell ⟨w.heap.size + 1, 12, none⟩ (.int .u8 vk)).setCell ⟨w.heap.size + 1, 13, none⟩ (.int .i64 vn)).setCell ⟨w.heap.size + 1, 14, none⟩ (.string vs)).setCell ⟨w.heap.size + 1, 15, none⟩ (.slice va vm vc)) (some (w.heap.size + 1)) := grown_trans (grown_trans (grown_trans (setOne_grown _ _ _ _) (setOne_grown _ _ _ _)) (setOne_grown _ _ _ _)) (setOne_grown _ _ _ _)
      have HF8a := Lib.hid (HF7.out.kept hg4 (fun k hk => by injection hk with hk; omega))
      have HG4 := Lib.hid hg4
      clear hbx hbv hg4 hE7
      go_upto_region 14 with (fail)
      have hgr : ((((y7.setCell ⟨w.heap.size + 1, 12, none⟩ (.int .u8 vk)).setCell ⟨w.heap.size + 1, 13, none⟩ (.int .i64 vn)).setCell ⟨w.heap.size + 1, 14, none⟩ (.string vs)).setCell ⟨w.heap.size + 1, 15, none⟩ (.slice va vm vc)).grownBy (((((y7.setCell ⟨w.heap.size + 1, 12, none⟩ (.int .u8 vk)).setCell ⟨w.heap.size + 1, 13, none⟩ (.int .i64 vn)).setCell ⟨w.heap.size + 1, 14, none⟩ (.string vs)).setCell ⟨w.heap.size + 1, 15, none⟩ (.slice va vm vc)).setCell ⟨R, 0, none⟩ (.slice ar mr cr)) (some R) := setOne_grown _ _ _ _
      have HN8 : Hid (NSt w (((((y7.setCell ⟨w.heap.size + 1, 12, none⟩ (.int .u8 vk)).setCell ⟨w.heap.size + 1, 13, none⟩ (.int .i64 vn)).setCell ⟨w.heap.size + 1, 14, none⟩ (.string vs)).setCell ⟨w.heap.size + 1, 15, none⟩ (.slice va vm vc)).setCell ⟨R, 0, none⟩ (.slice ar mr cr)) R ndZ (ndV TA TB c0 c1 c2 c3 (.slice a m c) f0 f1 f2 f3 G (.int .u8 vk) (.int .i64 vn) (.string vs) (.slice va vm vc)) [.int .i64 c0, .int .i64 f2]) := Lib.hid (NSt.step HN8a.out hgr)
      have HF8 : Hid (∀ yl, Bytes w0 (.slice ar mr cr) yl → RdF w0 (((((y7.setCell ⟨w.heap.size + 1, 12, none⟩ (.int .u8 vk)).setCell ⟨w.heap.size + 1, 13, none⟩ (.int .i64 vn)).setCell ⟨w.heap.size + 1, 14, none⟩ (.string vs)).setCell ⟨w.heap.size + 1, 15, none⟩ (.slice va vm vc)).setCell ⟨R, 0, none⟩ (.slice ar mr cr)) R (.slice ar mr cr) yl (sG s).2.isNone) := Lib.hid (fun yl h => HF8a.out.setLeft h)
      have HO8 := Lib.hid ((HO7.out.kept HG4.out (fun k hk => by injection hk with hk; omega)).kept hgr (fun k hk => by injection hk with hk; omega))
      have hz56 := HE6.out.size
      have hz5 : w.heap.size + 1 + 1 < y5.heap.size := HZ5.out
      have HT8 : Hid (∀ t, OwnT 43 y6 y5.heap.size t (.agg #[.int .u8 vk, .int .i64 vn, .string vs, .slice va vm vc]) → OwnT 43 (((((y7.setCell ⟨w.heap.size + 1, 12, none⟩ (.int .u8 vk)).setCell ⟨w.heap.size + 1, 13, none⟩ (.int .i64 vn)).setCell ⟨w.heap.size + 1, 14, none⟩ (.string vs)).setCell ⟨w.heap.size + 1, 15, none⟩ (.slice va vm vc)).setCell ⟨R, 0, none⟩ (.slice ar mr cr)) (w.heap.size + 1) t (.agg #[.int .u8 vk, .int .i64 vn, .string vs, .slice va vm vc])) := Lib.hid (fun t h =>
        (((h.ext HE7.out).grown HG4.out (fun k hk => by injection hk with hk; omega)).grown hgr (fun k hk => by injection hk with hk; omega)).mono (by omega))
      generalize ((((y7.setCell ⟨w.heap.size + 1, 12, none⟩ (.int .u8 vk)).setCell ⟨w.heap.size + 1, 13, none⟩ (.int .i64 vn)).setCell ⟨w.heap.size + 1, 14, none⟩ (.string vs)).setCell ⟨w.heap.size + 1, 15, none⟩ (.slice va vm vc)).setCell ⟨R, 0, none⟩ (.slice ar mr cr) = y8 at *
      clear hgr e0 e1 e2 e3 p12 p13 p14 p15 g12 g13 g14 g15 q0 q0f HF7 HN7 HO7 HN8a HF8a HG4 HE7 HF6 HN6 HO6 HE6 HZ5 hz56 hz6
      have HWF : Hid (∀ t, NumsT t → ndWf (ndOf s t)) := Lib.hid (fun t ht => ndOf_wf (by rw [HA.out]; exact HTA.out) (by rw [HB.out]; exact HTB.out) HC.out HF.out HCi.out HFi.out ht)
      have HCL : Hid (∀ t, ndV TA TB c0 c1 c2 c3 (.slice a m c) f0 f1 f2 f3 G (.int .u8 vk) (.int .i64 vn) (.string vs) (.slice va vm vc) = ndCells (ndOf s t) (.slice a m c) (.int .u8 vk) (.int .i64 vn) (.string vs) (.slice va vm vc)) := Lib.hid (fun t => ndV_cells HA.out HB.out HC.out HF.out HG.out (by omega) (by omega) (by omega) (by omega))
      have HAf : Hid (∀ t, (ndOf s t).after = (sE s).1) := Lib.hid (fun t => rfl)
      clear HA HB HC HF HG HTA HTB HCi HFi HGi HE0 HD
      have hzR : R < y8.heap.size := by have := HN8.out.bk.lt; omega
      as_aux_lemma =>
      cases hsg : (sG s).2 with
      | none =>
        have hnn := node_dead hsg
        have HNS : Hid (nodeS s = none) := Lib.hid hnn
        obtain ⟨yl, hyl⟩ : ∃ yl, Bytes w0 (.slice ar mr cr) yl := by
          rcases HTv.out with ⟨_, _, h⟩ | ⟨_, r, _, _, h, _⟩
          · exact ⟨_, h⟩
          · exact ⟨_, h⟩
        have hf := HF8.out yl hyl
        rw [hsg] at hf
        have mk1 : y8.cell? ⟨R, 1, none⟩ = some (.bool true) := hf.c1
        have f1c := hf.f1
        have HR9 : Hid (RdS w0 (y8.setCell ⟨R, 1, none⟩ (.bool true)) R (nodeS s)) := Lib.hid (by rw [hnn]; exact ⟨_, yl, hf.setBad true, fun _ h => by cases h⟩)
        have HN9 := Lib.hid (HN8.out.step (setOne_grown y8 R 1 (.bool true)))
        have HQ : Hid (∀ W, (y8.setCell ⟨R, 1, none⟩ (.bool true)).grownBy W (some w.heap.size) → NdGood w s TA TB c0 c1 c2 c3 a m c f0 f1 f2 f3 G vk vn vs va vm vc W) := Lib.hid (fun W _ r h => by rw [hnn] at h; cases h)
        clear hsg hnn hyl hf HTv HN8 HF8 HO8 HT8 HYS HB5 HWF HCL HAf
        as_aux_lemma =>
        go_upto_region 15 with (fail)
        generalize y8.setCell ⟨R, 1, none⟩ (.bool true) = y9 at *
        obtain ⟨CL, hCL⟩ : ∃ CL, CL = ndV TA TB c0 c1 c2 c3 (.slice a m c) f0 f1 f2 f3 G (.int .u8 vk) (.int .i64 vn) (.string vs) (.slice va vm vc) := ⟨_, rfl⟩
        have hn9 := HN9.out
        rw [← hCL] at hn9
        have hcl : CL.length = 16 := by rw [hCL]; rfl
        have HLd := Lib.hid hn9.bv.range
        have HLi : Hid ((Tryz.prog.info? 59).map (·.size) = some CL.length) := Lib.hid (by rw [hcl]; exact info_ndJ)
        have HTh : Hid (y9.there w.heap.size 0 CL.toArray.size) := Lib.hid (hn9.pb.there (by rw [List.size_toArray, hcl]; decide))
        have HLs : Hid ((Tryz.prog.info? 59).map (·.size) = some CL.toArray.size) := Lib.hid (by rw [List.size_toArray, hcl]; exact info_ndJ)
        have HC1 : Hid (CL.toArray.all (·.oneCell') = true) := Lib.hid (by rw [hCL]; unfold ndV; simp [Value.oneCell'])
        have HCL2 := Lib.hid hCL
        have HBF : Hid (BoxL (y9.setCells w.heap.size 0 CL) w.heap.size CL) := Lib.hid ⟨Nat.lt_of_lt_of_le hn9.pb.lt (setCells_grown w.heap.size CL 0 y9).size, (fun j u hu => by
            have := World.rangeAt_setCells_same y9 w.heap.size 0 CL (by have := HTh.out; rwa [List.size_toArray] at this) j u hu
            rwa [Nat.zero_add] at this), (fun j => by rw [World.frozen?_setCells]; exact hn9.pb.free j)⟩
        have HGF : Hid (y9.grownBy (y9.setCells w.heap.size 0 CL) (some w.heap.size)) := Lib.hid (setCells_grown _ _ _ _)
        clear hn9 hCL hcl
        go_wp2_with (first | (refine wpList_load_mid rfl _ _ rfl _ _ rfl _ _ HLd.out Tryz.underlying59 rfl HLi.out ?_) | (refine wpList_store_mid rfl _ _ _ rfl _ _ _ rfl rfl HTh.out HLs.out HC1.out ?_))
        generalize y9.setCells w.heap.size 0 CL = yF at *
        have hbf := HBF.out
        rw [HCL2.out] at hbf
        unfold ndV at hbf
        have ⟨p0, p1, p2, p3, p4, p5, p6, p7, p8, p9, p10, p11, p12, p13, p14, p15⟩ := hbf.n16
        have HP : Hid (NodePost w0 w R s (.returned (.agg #[.string (str TA), .string (str TB), .int .u8 c0, .int .i64 c1, .int .i64 c2, .int .i64 c3, .slice a m c, .int .i64 f0, .int .i64 f1, .int .u8 f2, .int .i64 f3, .int .i64 G, .int .u8 vk, .int .i64 vn, .string vs, .slice va vm vc])) yF) := Lib.hid
          ⟨_, _, _, _, _, _, _, _, _, _, _, _, _, _, _, _, _, _, _, _, rfl, HR9.out.kept HGF.out (fun k hk => by injection hk with hk; omega), grown_row' HN9.out.g HGF.out (fun k hk => by injection hk with hk; omega), HQ.out yF HGF.out⟩
        clear HLd HLi HTh HLs HC1 HCL2 HBF HGF hbf HR9 HN9 HQ
        refine bodyPost_ret (v := .agg #[.string (str TA), .string (str TB), .int .u8 c0, .int .i64 c1, .int .i64 c2, .int .i64 c3, .slice a m c, .int .i64 f0, .int .i64 f1, .int .u8 f2, .int .i64 f3, .int .i64 G, .int .u8 vk, .int .i64 vn, .string vs, .slice va vm vc]) (by simp [results, Tryz.results48, go_sem, p0, p1, p2, p3, p4, p5, p6, p7, p8, p9, p10, p11, p12, p13, p14, p15]) rfl ?_
        exact HP.out
      | some g =>
        have hys : ys = g := HYS.out g hsg
        subst hys
        have hns := node_some hsg
        rcases HTv.out with ⟨hT, rfl, hbl⟩ | ⟨t, r, hT, rfl, hbl, hot⟩
        · rw [hT, Option.bind_none] at hns
          have hf := HF8.out _ hbl
          rw [hsg] at hf
          have mk1 : y8.cell? ⟨R, 1, none⟩ = some (.bool false) := hf.c1
          have f1c := hf.f1
          have HR9 : Hid (RdS w0 (y8.setCell ⟨R, 1, none⟩ (.bool true)) R (nodeS s)) := Lib.hid (by rw [hns]; exact ⟨_, _, hf.setBad true, fun _ h => by cases h⟩)
          have HN9 := Lib.hid (HN8.out.step (setOne_grown y8 R 1 (.bool true)))
          have HQ : Hid (∀ W, (y8.setCell ⟨R, 1, none⟩ (.bool true)).grownBy W (some w.heap.size) → NdGood w s TA TB c0 c1 c2 c3 a m c f0 f1 f2 f3 G vk vn vs va vm vc W) := Lib.hid (fun W _ r h => by rw [hns] at h; cases h)
          clear hsg hns hf hT hbl HTv HN8 HF8 HO8 HT8 HYS HB5 HWF HCL HAf
          as_aux_lemma =>
          go_upto_region 15 with (fail)
          generalize y8.setCell ⟨R, 1, none⟩ (.bool true) = y9 at *
          obtain ⟨CL, hCL⟩ : ∃ CL, CL = ndV TA TB c0 c1 c2 c3 (.slice a m c) f0 f1 f2 f3 G (.int .u8 vk) (.int .i64 vn) (.string vs) (.slice va vm vc) := ⟨_, rfl⟩
          have hn9 := HN9.out
          rw [← hCL] at hn9
          have hcl : CL.length = 16 := by rw [hCL]; rfl
          have HLd := Lib.hid hn9.bv.range
          have HLi : Hid ((Tryz.prog.info? 59).map (·.size) = some CL.length) := Lib.hid (by rw [hcl]; exact info_ndJ)
          have HTh : Hid (y9.there w.heap.size 0 CL.toArray.size) := Lib.hid (hn9.pb.there (by rw [List.size_toArray, hcl]; decide))
          have HLs : Hid ((Tryz.prog.info? 59).map (·.size) = some CL.toArray.size) := Lib.hid (by rw [List.size_toArray, hcl]; exact info_ndJ)
          have HC1 : Hid (CL.toArray.all (·.oneCell') = true) := Lib.hid (by rw [hCL]; unfold ndV; simp [Value.oneCell'])
          have HCL2 := Lib.hid hCL
          have HBF : Hid (BoxL (y9.setCells w.heap.size 0 CL) w.heap.size CL) := Lib.hid ⟨Nat.lt_of_lt_of_le hn9.pb.lt (setCells_grown w.heap.size CL 0 y9).size, (fun j u hu => by
              have := World.rangeAt_setCells_same y9 w.heap.size 0 CL (by have := HTh.out; rwa [List.size_toArray] at this) j u hu
              rwa [Nat.zero_add] at this), (fun j => by rw [World.frozen?_setCells]; exact hn9.pb.free j)⟩
          have HGF : Hid (y9.grownBy (y9.setCells w.heap.size 0 CL) (some w.heap.size)) := Lib.hid (setCells_grown _ _ _ _)
          clear hn9 hCL hcl
          go_wp2_with (first | (refine wpList_load_mid rfl _ _ rfl _ _ rfl _ _ HLd.out Tryz.underlying59 rfl HLi.out ?_) | (refine wpList_store_mid rfl _ _ _ rfl _ _ _ rfl rfl HTh.out HLs.out HC1.out ?_))
          generalize y9.setCells w.heap.size 0 CL = yF at *
          have hbf := HBF.out
          rw [HCL2.out] at hbf
          unfold ndV at hbf
          have ⟨p0, p1, p2, p3, p4, p5, p6, p7, p8, p9, p10, p11, p12, p13, p14, p15⟩ := hbf.n16
          have HP : Hid (NodePost w0 w R s (.returned (.agg #[.string (str TA), .string (str TB), .int .u8 c0, .int .i64 c1, .int .i64 c2, .int .i64 c3, .slice a m c, .int .i64 f0, .int .i64 f1, .int .u8 f2, .int .i64 f3, .int .i64 G, .int .u8 vk, .int .i64 vn, .string vs, .slice va vm vc])) yF) := Lib.hid
            ⟨_, _, _, _, _, _, _, _, _, _, _, _, _, _, _, _, _, _, _, _, rfl, HR9.out.kept HGF.out (fun k hk => by injection hk with hk; omega), grown_row' HN9.out.g HGF.out (fun k hk => by injection hk with hk; omega), HQ.out yF HGF.out⟩
          clear HLd HLi HTh HLs HC1 HCL2 HBF HGF hbf HR9 HN9 HQ
          refine bodyPost_ret (v := .agg #[.string (str TA), .string (str TB), .int .u8 c0, .int .i64 c1, .int .i64 c2, .int .i64 c3, .slice a m c, .int .i64 f0, .int .i64 f1, .int .u8 f2, .int .i64 f3, .int .i64 G, .int .u8 vk, .int .i64 vn, .string vs, .slice va vm vc]) (by simp [results, Tryz.results48, go_sem, p0, p1, p2, p3, p4, p5, p6, p7, p8, p9, p10, p11, p12, p13, p14, p15]) rfl ?_
          exact HP.out
        · rw [hT, Option.bind_some] at hns
          have hf := HF8.out _ hbl
          rw [hsg] at hf
          have mk1 : y8.cell? ⟨R, 1, none⟩ = some (.bool false) := hf.c1
          have f1c := hf.f1
          have hot8 := HT8.out t hot
          have HL8 := Lib.hid hot8.lies
          have HNV : Hid (NdV y8 (ndOf s t) (.agg #[.string (str TA), .string (str TB), .int .u8 c0, .int .i64 c1, .int .i64 c2, .int .i64 c3, .slice a m c, .int .i64 f0, .int .i64 f1, .int .u8 f2, .int .i64 f3, .int .i64 G, .int .u8 vk, .int .i64 vn, .string vs, .slice va vm vc])) := Lib.hid (by
            obtain ⟨w1, w2, w3, w4', w5', w6', w7', w8', w9', w10, w11⟩ := HWF.out t hot8.lies.nums
            refine ⟨a, m, c, _, _, _, _, by rw [← HCL.out t]; rfl, by rw [HAf.out]; exact HO8.out.row (fun i hi => w11 i (by rw [HAf.out]; exact hi)), hot8.lies, w1, w2, w3, w4', w5', w6', w7', w8', w9'⟩)
          have HOT8 := Lib.hid hot8
          have HFd := Lib.hid hf
          have HNS := Lib.hid hns
          have hbv := HN8.out.bv
          unfold ndV at hbv
          have ⟨p0, p1, p2, p3, p4, p5, p6, p7, p8, p9, p10, p11, p12, p13, p14, p15⟩ := hbv.n16
          obtain ⟨xs0, hsx, hrd⟩ := node_chain hsg
          rw [hT, Option.bind_some] at hrd
          have HRD := Lib.hid hrd
          have HSX := Lib.hid hsx
          clear hot8 hot hf hns hbv hsg hT hbl HTv HF8 HT8 HYS HB5 hrd hsx
          go_wp2_with fail
          refine (nfits_any (ndOf s t) y8 _ HNV.out).mono ?_
          rintro e z1 ⟨rfl, hEz⟩
          have HN1 := Lib.hid (HN8.out.then hEz)
          have HF1 := Lib.hid (HFd.out.then hEz)
          have HO1 := Lib.hid (HO8.out.ext hEz)
          have HT1 := Lib.hid (HOT8.out.ext hEz)
          have mk2 := HF1.out.c1
          have f2c := HF1.out.f1
          clear hEz HN8 HFd HO8 HOT8 HNV HL8 mk1 f1c p0 p1 p2 p3 p4 p5 p6 p7 p8 p9 p10 p11 p12 p13 p14 p15
          cases hq : ndB (ndOf s t) with
          | false =>
            have hns : nodeS s = none := by rw [HNS.out, hq]; rfl
            have HR9 : Hid (RdS w0 (z1.setCell ⟨R, 1, none⟩ (.bool true)) R (nodeS s)) := Lib.hid (by rw [hns]; exact ⟨_, _, HF1.out.setBad true, fun _ h => by cases h⟩)
            have HN9 := Lib.hid (HN1.out.step (setOne_grown z1 R 1 (.bool true)))
            have HQ : Hid (∀ W, (z1.setCell ⟨R, 1, none⟩ (.bool true)).grownBy W (some w.heap.size) → NdGood w s TA TB c0 c1 c2 c3 a m c f0 f1 f2 f3 G vk vn vs va vm vc W) := Lib.hid (fun W _ r h => by rw [hns] at h; cases h)
            clear hns hq HN1 HF1 HO1 HT1 HNS HRD HSX HWF HCL HAf
            as_aux_lemma =>
            go_upto_region 15 with (fail)
            generalize z1.setCell ⟨R, 1, none⟩ (.bool true) = y9 at *
            obtain ⟨CL, hCL⟩ : ∃ CL, CL = ndV TA TB c0 c1 c2 c3 (.slice a m c) f0 f1 f2 f3 G (.int .u8 vk) (.int .i64 vn) (.string vs) (.slice va vm vc) := ⟨_, rfl⟩
            have hn9 := HN9.out
            rw [← hCL] at hn9
            have hcl : CL.length = 16 := by rw [hCL]; rfl
            have HLd := Lib.hid hn9.bv.range
            have HLi : Hid ((Tryz.prog.info? 59).map (·.size) = some CL.length) := Lib.hid (by rw [hcl]; exact info_ndJ)
            have HTh : Hid (y9.there w.heap.size 0 CL.toArray.size) := Lib.hid (hn9.pb.there (by rw [List.size_toArray, hcl]; decide))
            have HLs : Hid ((Tryz.prog.info? 59).map (·.size) = some CL.toArray.size) := Lib.hid (by rw [List.size_toArray, hcl]; exact info_ndJ)
            have HC1 : Hid (CL.toArray.all (·.oneCell') = true) := Lib.hid (by rw [hCL]; unfold ndV; simp [Value.oneCell'])
            have HCL2 := Lib.hid hCL
            have HBF : Hid (BoxL (y9.setCells w.heap.size 0 CL) w.heap.size CL) := Lib.hid ⟨Nat.lt_of_lt_of_le hn9.pb.lt (setCells_grown w.heap.size CL 0 y9).size, (fun j u hu => by
                have := World.rangeAt_setCells_same y9 w.heap.size 0 CL (by have := HTh.out; rwa [List.size_toArray] at this) j u hu
                rwa [Nat.zero_add] at this), (fun j => by rw [World.frozen?_setCells]; exact hn9.pb.free j)⟩
            have HGF : Hid (y9.grownBy (y9.setCells w.heap.size 0 CL) (some w.heap.size)) := Lib.hid (setCells_grown _ _ _ _)
            clear hn9 hCL hcl
            go_wp2_with (first | (refine wpList_load_mid rfl _ _ rfl _ _ rfl _ _ HLd.out Tryz.underlying59 rfl HLi.out ?_) | (refine wpList_store_mid rfl _ _ _ rfl _ _ _ rfl rfl HTh.out HLs.out HC1.out ?_))
            generalize y9.setCells w.heap.size 0 CL = yF at *
            have hbf := HBF.out
            rw [HCL2.out] at hbf
            unfold ndV at hbf
            have ⟨p0, p1, p2, p3, p4, p5, p6, p7, p8, p9, p10, p11, p12, p13, p14, p15⟩ := hbf.n16
            have HP : Hid (NodePost w0 w R s (.returned (.agg #[.string (str TA), .string (str TB), .int .u8 c0, .int .i64 c1, .int .i64 c2, .int .i64 c3, .slice a m c, .int .i64 f0, .int .i64 f1, .int .u8 f2, .int .i64 f3, .int .i64 G, .int .u8 vk, .int .i64 vn, .string vs, .slice va vm vc])) yF) := Lib.hid
              ⟨_, _, _, _, _, _, _, _, _, _, _, _, _, _, _, _, _, _, _, _, rfl, HR9.out.kept HGF.out (fun k hk => by injection hk with hk; omega), grown_row' HN9.out.g HGF.out (fun k hk => by injection hk with hk; omega), HQ.out yF HGF.out⟩
            clear HLd HLi HTh HLs HC1 HCL2 HBF HGF hbf HR9 HN9 HQ
            refine bodyPost_ret (v := .agg #[.string (str TA), .string (str TB), .int .u8 c0, .int .i64 c1, .int .i64 c2, .int .i64 c3, .slice a m c, .int .i64 f0, .int .i64 f1, .int .u8 f2, .int .i64 f3, .int .i64 G, .int .u8 vk, .int .i64 vn, .string vs, .slice va vm vc]) (by simp [results, Tryz.results48, go_sem, p0, p1, p2, p3, p4, p5, p6, p7, p8, p9, p10, p11, p12, p13, p14, p15]) rfl ?_
            exact HP.out
          | true =>
            have hns : nodeS s = some r := by rw [HNS.out, hq]; rfl
            have HR9 : Hid (RdS w0 (z1.setCell ⟨R, 1, none⟩ (.bool false)) R (nodeS s)) := Lib.hid (by rw [hns]; exact ⟨_, _, HF1.out.setBad false, fun xs h => by injection h⟩)
            have HN9 := Lib.hid (HN1.out.step (setOne_grown z1 R 1 (.bool false)))
            have HO9 := Lib.hid (HO1.out.kept (setOne_grown z1 R 1 (.bool false)) (fun k hk => by injection hk with hk; omega))
            have HT9 := Lib.hid (HT1.out.grown (setOne_grown z1 R 1 (.bool false)) (fun k hk => by injection hk with hk; omega))
            have HQ : Hid (∀ W, (z1.setCell ⟨R, 1, none⟩ (.bool false)).grownBy W (some w.heap.size) → NdGood w s TA TB c0 c1 c2 c3 a m c f0 f1 f2 f3 G vk vn vs va vm vc W) := Lib.hid (fun W hW r' h => by
              rw [hns] at h
              injection h with h
              subst h
              refine ⟨xs0, ndOf s t, HSX.out, by rw [HRD.out, hq]; rfl, hq, HCL.out t, ?_, ?_, HWF.out t HT1.out.lies.nums⟩
              · rw [HAf.out]; exact (HO9.out.kept hW (fun k hk => by injection hk with hk; omega)).mono (by omega)
              · exact (HT9.out.grown hW (fun k hk => by injection hk with hk; omega)).mono (by omega))
            clear hns hq HN1 HF1 HO1 HT1 HO9 HT9 HNS HRD HSX HWF HCL HAf
            as_aux_lemma =>
            go_upto_region 15 with (fail)
            generalize z1.setCell ⟨R, 1, none⟩ (.bool false) = y9 at *
            obtain ⟨CL, hCL⟩ : ∃ CL, CL = ndV TA TB c0 c1 c2 c3 (.slice a m c) f0 f1 f2 f3 G (.int .u8 vk) (.int .i64 vn) (.string vs) (.slice va vm vc) := ⟨_, rfl⟩
            have hn9 := HN9.out
            rw [← hCL] at hn9
            have hcl : CL.length = 16 := by rw [hCL]; rfl
            have HLd := Lib.hid hn9.bv.range
            have HLi : Hid ((Tryz.prog.info? 59).map (·.size) = some CL.length) := Lib.hid (by rw [hcl]; exact info_ndJ)
            have HTh : Hid (y9.there w.heap.size 0 CL.toArray.size) := Lib.hid (hn9.pb.there (by rw [List.size_toArray, hcl]; decide))
            have HLs : Hid ((Tryz.prog.info? 59).map (·.size) = some CL.toArray.size) := Lib.hid (by rw [List.size_toArray, hcl]; exact info_ndJ)
            have HC1 : Hid (CL.toArray.all (·.oneCell') = true) := Lib.hid (by rw [hCL]; unfold ndV; simp [Value.oneCell'])
            have HCL2 := Lib.hid hCL
            have HBF : Hid (BoxL (y9.setCells w.heap.size 0 CL) w.heap.size CL) := Lib.hid ⟨Nat.lt_of_lt_of_le hn9.pb.lt (setCells_grown w.heap.size CL 0 y9).size, (fun j u hu => by
                have := World.rangeAt_setCells_same y9 w.heap.size 0 CL (by have := HTh.out; rwa [List.size_toArray] at this) j u hu
                rwa [Nat.zero_add] at this), (fun j => by rw [World.frozen?_setCells]; exact hn9.pb.free j)⟩
            have HGF : Hid (y9.grownBy (y9.setCells w.heap.size 0 CL) (some w.heap.size)) := Lib.hid (setCells_grown _ _ _ _)
            clear hn9 hCL hcl
            go_wp2_with (first | (refine wpList_load_mid rfl _ _ rfl _ _ rfl _ _ HLd.out Tryz.underlying59 rfl HLi.out ?_) | (refine wpList_store_mid rfl _ _ _ rfl _ _ _ rfl rfl HTh.out HLs.out HC1.out ?_))
            generalize y9.setCells w.heap.size 0 CL = yF at *
            have hbf := HBF.out
            rw [HCL2.out] at hbf
            unfold ndV at hbf
            have ⟨p0, p1, p2, p3, p4, p5, p6, p7, p8, p9, p10, p11, p12, p13, p14, p15⟩ := hbf.n16
            have HP : Hid (NodePost w0 w R s (.returned (.agg #[.string (str TA), .string (str TB), .int .u8 c0, .int .i64 c1, .int .i64 c2, .int .i64 c3, .slice a m c, .int .i64 f0, .int .i64 f1, .int .u8 f2, .int .i64 f3, .int .i64 G, .int .u8 vk, .int .i64 vn, .string vs, .slice va vm vc])) yF) := Lib.hid
              ⟨_, _, _, _, _, _, _, _, _, _, _, _, _, _, _, _, _, _, _, _, rfl, HR9.out.kept HGF.out (fun k hk => by injection hk with hk; omega), grown_row' HN9.out.g HGF.out (fun k hk => by injection hk with hk; omega), HQ.out yF HGF.out⟩
            clear HLd HLi HTh HLs HC1 HCL2 HBF HGF hbf HR9 HN9 HQ
            refine bodyPost_ret (v := .agg #[.string (str TA), .string (str TB), .int .u8 c0, .int .i64 c1, .int .i64 c2, .int .i64 c3, .slice a m c, .int .i64 f0, .int .i64 f1, .int .u8 f2, .int .i64 f3, .int .i64 G, .int .u8 vk, .int .i64 vn, .string vs, .slice va vm vc]) (by simp [results, Tryz.results48, go_sem, p0, p1, p2, p3, p4, p5, p6, p7, p8, p9, p10, p11, p12, p13, p14, p15]) rfl ?_
            exact HP.out
end Go.Proofs.YtdienbcjfljjnaaGreatDoor
