/- Walks of package snap: Parse. -/
import Derived.Test.YtdienbcjfljjnaaGreatDoorSnI
import Derived.Test.YtdienbcjfljjnaaGreatDoorSnJ
open Go.RowKit Go.Shelf
namespace Go.Proofs.YtdienbcjfljjnaaGreatDoor
open Go Go.Proofs Fm

/-- What Parse comes to. -/
def SParse (xs : List UInt8) (w : World) (e : Ending) (w' : World) : Prop :=
  (parseS xs = none ∧ e = .returned (.tuple #[.agg #[.int .i64 0, .int .i64 0, .int .i64 0, .int .i64 0, .int .i64 0, .int .i64 0, .slice none 0 0, .int .i64 0], .int .i64 30]) ∧ Ext w w') ∨
  ∃ s, parseS xs = some s ∧ ∃ v, e = .returned (.tuple #[v, .int .i64 0]) ∧ Ext w w' ∧ SnOwn 59 3 43 w.heap.size w' s v
theorem info_state : (Tryz.prog.info? 26).map (·.size) = some 8 := by kernel_rfl
theorem info_node16 : ∃ i, Tryz.prog.info? 59 = some i ∧ i.zero = some (.agg #[.string { data := #[] }, .string { data := #[] }, .int .u8 0, .int .i64 0, .int .i64 0, .int .i64 0, .slice none 0 0, .int .i64 0, .int .i64 0, .int .u8 0, .int .i64 0, .int .i64 0, .int .u8 0, .int .i64 0, .string { data := #[] }, .slice none 0 0]) ∧ i.size = 16 ∧ i.bytes = 184 := by
  have h : (Tryz.prog.info? 59).map (fun i => (i.zero, i.size, i.bytes)) = some (some (.agg #[.string { data := #[] }, .string { data := #[] }, .int .u8 0, .int .i64 0, .int .i64 0, .int .i64 0, .slice none 0 0, .int .i64 0, .int .i64 0, .int .u8 0, .int .i64 0, .int .i64 0, .int .u8 0, .int .i64 0, .string { data := #[] }, .slice none 0 0]), 16, 184) := by kernel_rfl
  exact info_parts h

set_option maxRecDepth 100000 in
set_option maxHeartbeats 32000000 in
theorem sparse_any (v : Value) (xs : List UInt8) (w : World) (h : Bytes w v xs) :
    Calls Tryz.prog 14 #[v] w (SParse xs w) := by
  obtain ⟨ax, cx, rfl, -⟩ := id h
  have s1 : (w.alloc (.cells #[.int .i64 0, .int .i64 0, .int .i64 0, .int .i64 0, .int .i64 0, .int .i64 0, .slice none 0 0, .int .i64 0] 26)).heap.size = w.heap.size + 1 := by simp
  have s2 : ((w.alloc (.cells #[.int .i64 0, .int .i64 0, .int .i64 0, .int .i64 0, .int .i64 0, .int .i64 0, .slice none 0 0, .int .i64 0] 26)).alloc (.cells #[.slice ax xs.length cx, .bool false] 80)).heap.size = w.heap.size + 1 + 1 := by simp
  have b1 := BoxL.new w [.int .i64 0, .int .i64 0, .int .i64 0, .int .i64 0, .int .i64 0, .int .i64 0, .slice none 0 0, .int .i64 0] 26
  have b2 := BoxL.new (w.alloc (.cells #[.int .i64 0, .int .i64 0, .int .i64 0, .int .i64 0, .int .i64 0, .int .i64 0, .slice none 0 0, .int .i64 0] 26)) [.slice ax xs.length cx, .bool false] 80
  have b3 := BoxL.new ((w.alloc (.cells #[.int .i64 0, .int .i64 0, .int .i64 0, .int .i64 0, .int .i64 0, .int .i64 0, .slice none 0 0, .int .i64 0] 26)).alloc (.cells #[.slice ax xs.length cx, .bool false] 80)) [.int .i64 0, .int .i64 0, .int .i64 0, .int .i64 0, .int .i64 0, .int .i64 0, .slice none 0 0, .int .i64 0] 26
  rw [s1] at b2
  rw [s2] at b3
  have b2' := b2.ext ((Ext.refl _).alloc (.cells #[.int .i64 0, .int .i64 0, .int .i64 0, .int .i64 0, .int .i64 0, .int .i64 0, .slice none 0 0, .int .i64 0] 26))
  have hE0 : Ext w (((w.alloc (.cells #[.int .i64 0, .int .i64 0, .int .i64 0, .int .i64 0, .int .i64 0, .int .i64 0, .slice none 0 0, .int .i64 0] 26)).alloc (.cells #[.slice ax xs.length cx, .bool false] 80)).alloc (.cells #[.int .i64 0, .int .i64 0, .int .i64 0, .int .i64 0, .int .i64 0, .int .i64 0, .slice none 0 0, .int .i64 0] 26)) := (((Ext.refl w).alloc _).alloc _).alloc _
  have HP0 : Hid (JH w [] (((w.alloc (.cells #[.int .i64 0, .int .i64 0, .int .i64 0, .int .i64 0, .int .i64 0, .int .i64 0, .slice none 0 0, .int .i64 0] 26)).alloc (.cells #[.slice ax xs.length cx, .bool false] 80)).alloc (.cells #[.int .i64 0, .int .i64 0, .int .i64 0, .int .i64 0, .int .i64 0, .int .i64 0, .slice none 0 0, .int .i64 0] 26))) := Lib.hid ⟨hE0, (b1.ext ((Ext.refl _).alloc _)).ext ((Ext.refl _).alloc _), b3⟩
  have HR0 : Hid (RdS w (((w.alloc (.cells #[.int .i64 0, .int .i64 0, .int .i64 0, .int .i64 0, .int .i64 0, .int .i64 0, .slice none 0 0, .int .i64 0] 26)).alloc (.cells #[.slice ax xs.length cx, .bool false] 80)).alloc (.cells #[.int .i64 0, .int .i64 0, .int .i64 0, .int .i64 0, .int .i64 0, .int .i64 0, .slice none 0 0, .int .i64 0] 26)) (w.heap.size + 1) (some xs)) := Lib.hid ⟨_, xs, ⟨hE0, by omega, b2'.lt, b2'.cell 0 _ rfl, b2'.cell 1 _ rfl, b2'.free 0, b2'.free 1, h⟩, fun ys h => by injection h⟩
  clear s1 s2 b1 b2 b3 b2' hE0 h
  generalize xs.length = lx at *
  go_enter Tryz.func14, Tryz.ntmps14
  go_wp2_with fail
  generalize ((w.alloc (.cells #[.int .i64 0, .int .i64 0, .int .i64 0, .int .i64 0, .int .i64 0, .int .i64 0, .slice none 0 0, .int .i64 0] 26)).alloc (.cells #[.slice ax lx cx, .bool false] 80)).alloc (.cells #[.int .i64 0, .int .i64 0, .int .i64 0, .int .i64 0, .int .i64 0, .int .i64 0, .slice none 0 0, .int .i64 0] 26) = W3 at *
  refine (headN_any (w.heap.size + 1 + 1) W3).mono ?_
  rintro e y1 ⟨FB, rfl, hFB, hF1, -, hE1⟩
  have hj1 := PSt.then HP0.out hE1
  have HJ1 : Hid (JH w [] y1) := Lib.hid hj1
  have HR1 := Lib.hid (HR0.out.then hE1)
  have HF1 := Lib.hid hF1
  have hlb := (show PSt w W3 _ from HP0.out).sb.lt
  have hz1 := hE1.size
  clear hj1 hF1 HP0 HR0 hE1
  go_wp2_with fail
  refine (all_any (headF (w.heap.size + 1 + 1)) FB (JH w) HR1.out HJ1.out (by simp [headF]) (by omega) HF1.out (fun ns a b hj hE => PSt.then hj hE) (fun ns a b n f hj hf hg _ => JH_step hj hf hg) (fun ns a f hj hf => JH_cell hj hf) (fun f hf => by have := head_far hf; omega)).mono ?_
  rw [headF_bnd]
  rintro e y2 ⟨rfl, hr2, hj2⟩
  rw [show allR fH (some xs) = tA xs from rfl] at hr2 hj2
  obtain ⟨h0, h1, h2, h3, h4, h5, hH⟩ := six_ (show (tA xs).1.length = 6 from allR_len _ _)
  have hHi := allR_i64 fH (some xs)
  rw [show allR fH (some xs) = tA xs from rfl, hH] at hHi
  rw [hH] at hj2
  have HJ2 : Hid (PSt w y2 (snC h0 h1 h2 h3 h4 h5 zV 0)) := Lib.hid hj2
  have HR2 := Lib.hid hr2
  have HH := Lib.hid hH
  have HHa := Lib.hid hHi
  clear hr2 hj2 hH hHi HJ1 HR1 HF1 hFB hz1 hlb
  go_wp2_with fail
  refine (snum_any 0 9223372036854775807 HR2.out).mono ?_
  rw [show numR 0 9223372036854775807 (tA xs).2 = tB xs from rfl]
  rintro e y3 ⟨rfl, hr3, hg3⟩
  have HJ3 := Lib.hid (HJ2.out.step hg3)
  obtain ⟨tk, htk⟩ : ∃ tk, tk = (tB xs).1 := ⟨_, rfl⟩
  have htki : isI64 (tB xs).1 := numR_i64 _ _ _
  rw [← htk] at htki ⊢
  have HTk := Lib.hid htk
  have HHi : Hid (isI64 h0 ∧ isI64 h1 ∧ isI64 h2 ∧ isI64 h3 ∧ isI64 h4 ∧ isI64 h5 ∧ isI64 tk) := Lib.hid ⟨HHa.out _ (by simp), HHa.out _ (by simp), HHa.out _ (by simp), HHa.out _ (by simp), HHa.out _ (by simp), HHa.out _ (by simp), htki⟩
  have hbv := HJ3.out.sb
  unfold snC at hbv
  have q7 := hbv.cell 7 _ rfl
  have g7 := hbv.free 7
  have hgz := setOne_grown y3 (w.heap.size + 1 + 1) 7 (.int .i64 tk)
  have HR4 := Lib.hid (hr3.kept hgz (fun k hk => by injection hk with hk; omega))
  have HJ4 : Hid (PSt w (y3.setCell ⟨w.heap.size + 1 + 1, 7, none⟩ (.int .i64 tk)) (snC h0 h1 h2 h3 h4 h5 zV tk)) := Lib.hid (HJ3.out.set 7 (by simp [snC]) (.int .i64 tk))
  clear htk htki hbv hgz hr3 hg3 HJ2 HR2 HHa HJ3
  go_upto_region 5 with (fail)
  generalize y3.setCell ⟨w.heap.size + 1 + 1, 7, none⟩ (.int .i64 tk) = y4 at *
  clear q7 g7
  go_wp2_with fail
  refine (snum_any 0 4800 HR4.out).mono ?_
  rw [show numR 0 4800 (tB xs).2 = tC xs from rfl]
  rintro e y5 ⟨rfl, hr5, hg5⟩
  have HJ5 := Lib.hid (HJ4.out.step hg5)
  have HR5 := Lib.hid hr5
  have hcr : (tC xs).1 = 0 ∨ (0 ≤ (tC xs).1 ∧ (tC xs).1 ≤ 4800) := numR_range 0 4800 _
  obtain ⟨M, hM⟩ : ∃ M : Nat, (tC xs).1 = (M : Int) := ⟨(tC xs).1.toNat, by omega⟩
  rw [hM]
  have hM48 : M ≤ 4800 := by omega
  have HM := Lib.hid hM
  have HFar : Hid (Far 59 3 43 w xs 0 (tC xs).2 y5 none 0 0) := Lib.hid ⟨sn_dead, fun r hr => ⟨r, [], hr, rfl, OwnNds.nil _ _ _ _ _⟩⟩
  generalize (tC xs).2 = st0 at HR5 HFar
  have HJ5 : Hid (PSt w y5 (snC h0 h1 h2 h3 h4 h5 zV tk)) := HJ5
  clear hr5 hg5 hcr hM HJ4 HR4
  go_wp2_with fail
  go_loopw [7] (fun i wr => ∃ (j : Nat) (st : Option (List UInt8)) (a : Option Addr) (m c : Nat), j ≤ M ∧ i = .int .i64 j ∧ Hid (PSt w wr (snC h0 h1 h2 h3 h4 h5 (.slice a m c) tk)) ∧ Hid (RdS w wr (w.heap.size + 1) st) ∧ Hid (Far 59 3 43 w xs j st wr a m c)) (fun i _ => M - (intOf i).toNat)
  case atStart => exact ⟨0, st0, none, 0, 0, by omega, rfl, HJ5, HR5, HFar⟩
  case round =>
    clear HJ5 HR5 HFar
    obtain ⟨j, st, a, m, c, hj, rfl, HJ, HR, HFa⟩ := hrel
    have mk := HR.out.mark
    have hsb := HJ.out.sb
    unfold snC at hsb
    have ⟨p0, p1, p2, p3, p4, p5, p6, p7⟩ := hsb.n8
    have z6 := hsb.free 6
    have hlr := hsb.lt
    clear hsb
    by_cases hlt : j < M
    case neg =>
      have hjM : j = M := by omega
      obtain ⟨wq, rfl⟩ : ∃ wq : World, wq = wr := ⟨_, rfl⟩
      have HPS := HJ
      cases st with
      | none =>
        have HNo : Hid (parseS xs = none) := Lib.hid (by rw [parseS_of (HFa.out.1 rfl)]; rfl)
        have mk : wq.cell? ⟨w.heap.size + 1, 1, none⟩ = some (.bool true) := mk
        clear hjM HFa HR HJ
        go_upto_region 11 with (fail)
        have hL8 : ([.int .i64 0, .int .i64 0, .int .i64 0, .int .i64 0, .int .i64 0, .int .i64 0, .slice none 0 0, .int .i64 0] : List Value).length = 8 := rfl
        have HTh : Hid (wq.there w.heap.size 0 ([.int .i64 0, .int .i64 0, .int .i64 0, .int .i64 0, .int .i64 0, .int .i64 0, .slice none 0 0, .int .i64 0] : List Value).toArray.size) := Lib.hid (HPS.out.pb.there (by simp [z8]))
        have HLs : Hid ((Tryz.prog.info? 26).map (·.size) = some ([.int .i64 0, .int .i64 0, .int .i64 0, .int .i64 0, .int .i64 0, .int .i64 0, .slice none 0 0, .int .i64 0] : List Value).toArray.size) := Lib.hid info_state
        have HC1 : Hid (([.int .i64 0, .int .i64 0, .int .i64 0, .int .i64 0, .int .i64 0, .int .i64 0, .slice none 0 0, .int .i64 0] : List Value).toArray.all (·.oneCell') = true) := Lib.hid (by simp [Value.oneCell'])
        have HBF : Hid (BoxL (wq.setCells w.heap.size 0 [.int .i64 0, .int .i64 0, .int .i64 0, .int .i64 0, .int .i64 0, .int .i64 0, .slice none 0 0, .int .i64 0]) w.heap.size [.int .i64 0, .int .i64 0, .int .i64 0, .int .i64 0, .int .i64 0, .int .i64 0, .slice none 0 0, .int .i64 0]) := Lib.hid ⟨Nat.lt_of_lt_of_le HPS.out.pb.lt (setCells_grown w.heap.size [.int .i64 0, .int .i64 0, .int .i64 0, .int .i64 0, .int .i64 0, .int .i64 0, .slice none 0 0, .int .i64 0] 0 wq).size, (fun j u hu => by
            have := World.rangeAt_setCells_same wq w.heap.size 0 [.int .i64 0, .int .i64 0, .int .i64 0, .int .i64 0, .int .i64 0, .int .i64 0, .slice none 0 0, .int .i64 0] (HPS.out.pb.there (by simp [z8])) j u hu
            rwa [Nat.zero_add] at this), (fun j => by rw [World.frozen?_setCells]; exact HPS.out.pb.free j)⟩
        have HGF : Hid (wq.grownBy (wq.setCells w.heap.size 0 [.int .i64 0, .int .i64 0, .int .i64 0, .int .i64 0, .int .i64 0, .int .i64 0, .slice none 0 0, .int .i64 0]) (some w.heap.size)) := Lib.hid (setCells_grown _ _ _ _)
        clear hL8
        go_wp2_with (refine wpList_store_mid rfl _ _ _ rfl _ _ _ rfl rfl HTh.out HLs.out HC1.out ?_)
        generalize wq.setCells w.heap.size 0 [.int .i64 0, .int .i64 0, .int .i64 0, .int .i64 0, .int .i64 0, .int .i64 0, .slice none 0 0, .int .i64 0] = yF at *
        have ⟨p0, p1, p2, p3, p4, p5, p6, p7⟩ := HBF.out.n8
        have HP : Hid (SParse xs w (.returned (.tuple #[.agg #[.int .i64 0, .int .i64 0, .int .i64 0, .int .i64 0, .int .i64 0, .int .i64 0, .slice none 0 0, .int .i64 0], .int .i64 30])) yF) := Lib.hid (.inl ⟨HNo.out, rfl, HPS.out.e.grown HGF.out (fun k hk => by injection hk with hk; omega)⟩)
        clear HTh HLs HC1 HBF HGF
        refine bodyPost_ret (v := .tuple #[.agg #[.int .i64 0, .int .i64 0, .int .i64 0, .int .i64 0, .int .i64 0, .int .i64 0, .slice none 0 0, .int .i64 0], .int .i64 30]) (by simp [results, Tryz.results14, go_sem, p0, p1, p2, p3, p4, p5, p6, p7]) rfl ?_
        exact HP.out
      | some r =>
        have mk : wq.cell? ⟨w.heap.size + 1, 1, none⟩ = some (.bool false) := mk
        obtain ⟨ys, l, hC, hrd, hown⟩ := HFa.out.2 r rfl
        have hrd2 : readSn xs = some (mkSn (tA xs).1 (tB xs).1 l, r) := by rw [sn_chain hC, HM.out, Int.toNat_natCast, ← hjM, hrd, Option.bind_some]
        obtain ⟨lv, zs, hF, hzs⟩ := HR.out
        obtain rfl : zs = r := hzs r rfl
        have r0 := hF.c0
        obtain ⟨ar, cr, rfl, -⟩ := id hF.bytes
        cases zs with
        | nil =>
          have HYes : Hid (parseS xs = some ⟨h0, h1, h2, h3, h4, h5, l, tk⟩) := Lib.hid (by
            rw [parseS_of hrd2, Option.bind_some]
            simp only [if_true]
            unfold mkSn
            rw [HH.out, ← HTk.out]
            rfl)
          have HOn := Lib.hid hown
          clear hjM HFa HR HJ hC hrd hrd2 hown hF hzs
          go_upto_region 12 with (fail)
          have hL8 : ([.int .i64 h0, .int .i64 h1, .int .i64 h2, .int .i64 h3, .int .i64 h4, .int .i64 h5, .slice a m c, .int .i64 tk] : List Value).length = 8 := rfl
          have HTh : Hid (wq.there w.heap.size 0 ([.int .i64 h0, .int .i64 h1, .int .i64 h2, .int .i64 h3, .int .i64 h4, .int .i64 h5, .slice a m c, .int .i64 tk] : List Value).toArray.size) := Lib.hid (HPS.out.pb.there (by simp [z8]))
          have HLs : Hid ((Tryz.prog.info? 26).map (·.size) = some ([.int .i64 h0, .int .i64 h1, .int .i64 h2, .int .i64 h3, .int .i64 h4, .int .i64 h5, .slice a m c, .int .i64 tk] : List Value).toArray.size) := Lib.hid info_state
          have HC1 : Hid (([.int .i64 h0, .int .i64 h1, .int .i64 h2, .int .i64 h3, .int .i64 h4, .int .i64 h5, .slice a m c, .int .i64 tk] : List Value).toArray.all (·.oneCell') = true) := Lib.hid (by simp [Value.oneCell'])
          have HBF : Hid (BoxL (wq.setCells w.heap.size 0 [.int .i64 h0, .int .i64 h1, .int .i64 h2, .int .i64 h3, .int .i64 h4, .int .i64 h5, .slice a m c, .int .i64 tk]) w.heap.size [.int .i64 h0, .int .i64 h1, .int .i64 h2, .int .i64 h3, .int .i64 h4, .int .i64 h5, .slice a m c, .int .i64 tk]) := Lib.hid ⟨Nat.lt_of_lt_of_le HPS.out.pb.lt (setCells_grown w.heap.size [.int .i64 h0, .int .i64 h1, .int .i64 h2, .int .i64 h3, .int .i64 h4, .int .i64 h5, .slice a m c, .int .i64 tk] 0 wq).size, (fun j u hu => by
              have := World.rangeAt_setCells_same wq w.heap.size 0 [.int .i64 h0, .int .i64 h1, .int .i64 h2, .int .i64 h3, .int .i64 h4, .int .i64 h5, .slice a m c, .int .i64 tk] (HPS.out.pb.there (by simp [z8])) j u hu
              rwa [Nat.zero_add] at this), (fun j => by rw [World.frozen?_setCells]; exact HPS.out.pb.free j)⟩
          have HGF : Hid (wq.grownBy (wq.setCells w.heap.size 0 [.int .i64 h0, .int .i64 h1, .int .i64 h2, .int .i64 h3, .int .i64 h4, .int .i64 h5, .slice a m c, .int .i64 tk]) (some w.heap.size)) := Lib.hid (setCells_grown _ _ _ _)
          clear hL8
          go_wp2_with (refine wpList_store_mid rfl _ _ _ rfl _ _ _ rfl rfl HTh.out HLs.out HC1.out ?_)
          generalize wq.setCells w.heap.size 0 [.int .i64 h0, .int .i64 h1, .int .i64 h2, .int .i64 h3, .int .i64 h4, .int .i64 h5, .slice a m c, .int .i64 tk] = yF at *
          have ⟨p0, p1, p2, p3, p4, p5, p6, p7⟩ := HBF.out.n8
          have HP : Hid (SParse xs w (.returned (.tuple #[.agg #[.int .i64 h0, .int .i64 h1, .int .i64 h2, .int .i64 h3, .int .i64 h4, .int .i64 h5, .slice a m c, .int .i64 tk], .int .i64 0])) yF) := Lib.hid (.inr ⟨_, HYes.out, _, rfl, HPS.out.e.grown HGF.out (fun k hk => by injection hk with hk; omega), a, m, c, rfl, OwnNds.mono (OwnNds.kept HOn.out HGF.out (fun k hk => by injection hk with hk; omega)) (by omega), HHi.out⟩)
          clear HTh HLs HC1 HBF HGF
          refine bodyPost_ret (v := .tuple #[.agg #[.int .i64 h0, .int .i64 h1, .int .i64 h2, .int .i64 h3, .int .i64 h4, .int .i64 h5, .slice a m c, .int .i64 tk], .int .i64 0]) (by simp [results, Tryz.results14, go_sem, p0, p1, p2, p3, p4, p5, p6, p7]) rfl ?_
          exact HP.out
        | cons z zs' =>
          have HNo : Hid (parseS xs = none) := Lib.hid (by rw [parseS_of hrd2, Option.bind_some]; simp)
          have hpos : (0 : Int) < ((z :: zs').length : Int) := by rw [List.length_cons]; omega
          generalize (z :: zs').length = lz at *
          clear hjM HFa HR HJ hC hrd hrd2 hown hF hzs
          go_upto_region 11 with (fail)
          have hL8 : ([.int .i64 0, .int .i64 0, .int .i64 0, .int .i64 0, .int .i64 0, .int .i64 0, .slice none 0 0, .int .i64 0] : List Value).length = 8 := rfl
          have HTh : Hid (wq.there w.heap.size 0 ([.int .i64 0, .int .i64 0, .int .i64 0, .int .i64 0, .int .i64 0, .int .i64 0, .slice none 0 0, .int .i64 0] : List Value).toArray.size) := Lib.hid (HPS.out.pb.there (by simp [z8]))
          have HLs : Hid ((Tryz.prog.info? 26).map (·.size) = some ([.int .i64 0, .int .i64 0, .int .i64 0, .int .i64 0, .int .i64 0, .int .i64 0, .slice none 0 0, .int .i64 0] : List Value).toArray.size) := Lib.hid info_state
          have HC1 : Hid (([.int .i64 0, .int .i64 0, .int .i64 0, .int .i64 0, .int .i64 0, .int .i64 0, .slice none 0 0, .int .i64 0] : List Value).toArray.all (·.oneCell') = true) := Lib.hid (by simp [Value.oneCell'])
          have HBF : Hid (BoxL (wq.setCells w.heap.size 0 [.int .i64 0, .int .i64 0, .int .i64 0, .int .i64 0, .int .i64 0, .int .i64 0, .slice none 0 0, .int .i64 0]) w.heap.size [.int .i64 0, .int .i64 0, .int .i64 0, .int .i64 0, .int .i64 0, .int .i64 0, .slice none 0 0, .int .i64 0]) := Lib.hid ⟨Nat.lt_of_lt_of_le HPS.out.pb.lt (setCells_grown w.heap.size [.int .i64 0, .int .i64 0, .int .i64 0, .int .i64 0, .int .i64 0, .int .i64 0, .slice none 0 0, .int .i64 0] 0 wq).size, (fun j u hu => by
              have := World.rangeAt_setCells_same wq w.heap.size 0 [.int .i64 0, .int .i64 0, .int .i64 0, .int .i64 0, .int .i64 0, .int .i64 0, .slice none 0 0, .int .i64 0] (HPS.out.pb.there (by simp [z8])) j u hu
              rwa [Nat.zero_add] at this), (fun j => by rw [World.frozen?_setCells]; exact HPS.out.pb.free j)⟩
          have HGF : Hid (wq.grownBy (wq.setCells w.heap.size 0 [.int .i64 0, .int .i64 0, .int .i64 0, .int .i64 0, .int .i64 0, .int .i64 0, .slice none 0 0, .int .i64 0]) (some w.heap.size)) := Lib.hid (setCells_grown _ _ _ _)
          clear hL8
          go_wp2_with (refine wpList_store_mid rfl _ _ _ rfl _ _ _ rfl rfl HTh.out HLs.out HC1.out ?_)
          generalize wq.setCells w.heap.size 0 [.int .i64 0, .int .i64 0, .int .i64 0, .int .i64 0, .int .i64 0, .int .i64 0, .slice none 0 0, .int .i64 0] = yF at *
          have ⟨p0, p1, p2, p3, p4, p5, p6, p7⟩ := HBF.out.n8
          have HP : Hid (SParse xs w (.returned (.tuple #[.agg #[.int .i64 0, .int .i64 0, .int .i64 0, .int .i64 0, .int .i64 0, .int .i64 0, .slice none 0 0, .int .i64 0], .int .i64 30])) yF) := Lib.hid (.inl ⟨HNo.out, rfl, HPS.out.e.grown HGF.out (fun k hk => by injection hk with hk; omega)⟩)
          clear HTh HLs HC1 HBF HGF
          refine bodyPost_ret (v := .tuple #[.agg #[.int .i64 0, .int .i64 0, .int .i64 0, .int .i64 0, .int .i64 0, .int .i64 0, .slice none 0 0, .int .i64 0], .int .i64 30]) (by simp [results, Tryz.results14, go_sem, p0, p1, p2, p3, p4, p5, p6, p7]) rfl ?_
          exact HP.out
    case pos =>
    cases st with
    | none =>
      obtain ⟨wq, rfl⟩ : ∃ wq : World, wq = wr := ⟨_, rfl⟩
      have HPS := HJ
      have HNo : Hid (parseS xs = none) := Lib.hid (by rw [parseS_of (HFa.out.1 rfl)]; rfl)
      have mk : wq.cell? ⟨w.heap.size + 1, 1, none⟩ = some (.bool true) := mk
      clear HFa HR HJ
      go_upto_region 11 with (fail)
      have hL8 : ([.int .i64 0, .int .i64 0, .int .i64 0, .int .i64 0, .int .i64 0, .int .i64 0, .slice none 0 0, .int .i64 0] : List Value).length = 8 := rfl
      have HTh : Hid (wq.there w.heap.size 0 ([.int .i64 0, .int .i64 0, .int .i64 0, .int .i64 0, .int .i64 0, .int .i64 0, .slice none 0 0, .int .i64 0] : List Value).toArray.size) := Lib.hid (HPS.out.pb.there (by simp [z8]))
      have HLs : Hid ((Tryz.prog.info? 26).map (·.size) = some ([.int .i64 0, .int .i64 0, .int .i64 0, .int .i64 0, .int .i64 0, .int .i64 0, .slice none 0 0, .int .i64 0] : List Value).toArray.size) := Lib.hid info_state
      have HC1 : Hid (([.int .i64 0, .int .i64 0, .int .i64 0, .int .i64 0, .int .i64 0, .int .i64 0, .slice none 0 0, .int .i64 0] : List Value).toArray.all (·.oneCell') = true) := Lib.hid (by simp [Value.oneCell'])
      have HBF : Hid (BoxL (wq.setCells w.heap.size 0 [.int .i64 0, .int .i64 0, .int .i64 0, .int .i64 0, .int .i64 0, .int .i64 0, .slice none 0 0, .int .i64 0]) w.heap.size [.int .i64 0, .int .i64 0, .int .i64 0, .int .i64 0, .int .i64 0, .int .i64 0, .slice none 0 0, .int .i64 0]) := Lib.hid ⟨Nat.lt_of_lt_of_le HPS.out.pb.lt (setCells_grown w.heap.size [.int .i64 0, .int .i64 0, .int .i64 0, .int .i64 0, .int .i64 0, .int .i64 0, .slice none 0 0, .int .i64 0] 0 wq).size, (fun j u hu => by
          have := World.rangeAt_setCells_same wq w.heap.size 0 [.int .i64 0, .int .i64 0, .int .i64 0, .int .i64 0, .int .i64 0, .int .i64 0, .slice none 0 0, .int .i64 0] (HPS.out.pb.there (by simp [z8])) j u hu
          rwa [Nat.zero_add] at this), (fun j => by rw [World.frozen?_setCells]; exact HPS.out.pb.free j)⟩
      have HGF : Hid (wq.grownBy (wq.setCells w.heap.size 0 [.int .i64 0, .int .i64 0, .int .i64 0, .int .i64 0, .int .i64 0, .int .i64 0, .slice none 0 0, .int .i64 0]) (some w.heap.size)) := Lib.hid (setCells_grown _ _ _ _)
      clear hL8
      go_wp2_with (refine wpList_store_mid rfl _ _ _ rfl _ _ _ rfl rfl HTh.out HLs.out HC1.out ?_)
      generalize wq.setCells w.heap.size 0 [.int .i64 0, .int .i64 0, .int .i64 0, .int .i64 0, .int .i64 0, .int .i64 0, .slice none 0 0, .int .i64 0] = yF at *
      have ⟨p0, p1, p2, p3, p4, p5, p6, p7⟩ := HBF.out.n8
      have HP : Hid (SParse xs w (.returned (.tuple #[.agg #[.int .i64 0, .int .i64 0, .int .i64 0, .int .i64 0, .int .i64 0, .int .i64 0, .slice none 0 0, .int .i64 0], .int .i64 30])) yF) := Lib.hid (.inl ⟨HNo.out, rfl, HPS.out.e.grown HGF.out (fun k hk => by injection hk with hk; omega)⟩)
      clear HTh HLs HC1 HBF HGF
      refine bodyPost_ret (v := .tuple #[.agg #[.int .i64 0, .int .i64 0, .int .i64 0, .int .i64 0, .int .i64 0, .int .i64 0, .slice none 0 0, .int .i64 0], .int .i64 30]) (by simp [results, Tryz.results14, go_sem, p0, p1, p2, p3, p4, p5, p6, p7]) rfl ?_
      exact HP.out
    | some r =>
      have mk : wr.cell? ⟨w.heap.size + 1, 1, none⟩ = some (.bool false) := mk
      obtain ⟨ys, l, hC, hrd, hown⟩ := HFa.out.2 r rfl
      obtain ⟨cs, hcs, hrow, hin⟩ := id hown
      obtain ⟨i0, hi0, hz0, hz1, hz2⟩ := info_node16
      have hlen : l.length = j := (readM_inv readNd ndBy (fun _ => True) (fun xs x r h => ⟨(readNd_inv h).1, trivial⟩) _ _ _ _ hrd).1
      obtain rfl : j = m := by
        have hO := hrow
        rw [hlen] at hO
        rcases hO.2 with ⟨e, e2⟩ | ⟨g, cap, cur, e, _⟩ <;> injection e <;> omega
      rw [hlen] at hrow
      have HRow := Lib.hid hrow
      have HRo : Hid (∀ k, (Value.slice a j c).ownBlock = some k → w.heap.size + 1 + 1 + 1 ≤ k ∧ k < wr.heap.size) := Lib.hid (fun k hk => hrow.lt k hk)
      have HL1 : Hid (j + 1 ≤ maxLen) := Lib.hid (by unfold maxLen; omega)
      have HLn := Lib.hid hlen
      have HCs := Lib.hid hcs
      have HIn := Lib.hid hin
      have HC := Lib.hid hC
      have HRd := Lib.hid hrd
      have HMl : Hid (j + 1 ≤ (tC xs).1.toNat) := Lib.hid (by rw [HM.out, Int.toNat_natCast]; omega)
      clear hcs hrow hin hlen hC hrd hown HFa
      go_wp2_with fail
      go_region_law (first
        | (refine step_append_lies _ (by rfl) _ _ _ (by rfl) (w.heap.size + 1 + 1 + 1) 59 i0 _ 16 184 Tryz.underlying24 hi0 hz0 hz1 hz2 rfl (by omega) (.slice a j c) j cs.flatten (by rfl) HR6.out ⟨w4.heap.size, 0, none⟩ 1 1 [.string i, .string nm, .int .u8 kd, .int .i64 fl, .int .i64 ow, .int .i64 pl, .slice na nm2 nc, .int .i64 wd, .int .i64 qu, .int .u8 sd, .int .i64 fa, .int .i64 tk2, .int .u8 vk, .int .i64 vn, .string vs, .slice va vm vc] (by rfl) (by rfl) (World.news_of_block (cs := #[.string i, .string nm, .int .u8 kd, .int .i64 fl, .int .i64 ow, .int .i64 pl, .slice na nm2 nc, .int .i64 wd, .int .i64 qu, .int .u8 sd, .int .i64 fa, .int .i64 tk2, .int .u8 vk, .int .i64 vn, .string vs, .slice va vm vc]) (t := 59) (fr := (0, 0)) (heap_alloc_new w4 _)) (by simp [Value.oneCell']) (by omega) HL1.out (by omega) (by simp; omega) (w4.heap.size + 1) (by simp) ?_
           intro gg cap6 w6 hown6 hgrow6 hat6 hlt6
           have S6 := (hgrow6.cell_far ⟨w.heap.size + 1 + 1, 6, none⟩ (by simp; omega) (fun e => by have := (HRo.out _ e.symm).1; simp at this; omega)).trans ((((Ext.refl w4).alloc _).cell (p := ⟨w.heap.size + 1 + 1, 6, none⟩) hV4).trans S4)
           have S6' := (hgrow6.frozen_far ⟨w.heap.size + 1 + 1, 6, none⟩ (by simp; omega) (fun e => by have := (HRo.out _ e.symm).1; simp at this; omega)).trans ((((Ext.refl w4).alloc _).frozen (p := ⟨w.heap.size + 1 + 1, 6, none⟩) hV4).trans S4'))
        | (go_simp
           go_at_call 48
           refine (node_any (s := some r) (w0 := w) (R := w.heap.size + 1) ?_).mono ?_
           · first | exact HR.out | exact HR.out.then (Ext.refl _).drew | exact HR.out.then ((Ext.refl _).drewN _)
           rintro e w4 ⟨i, nm, kd, fl, ow, pl, na, nm2, nc, wd, qu, sd, fa, tk2, vk, vn, vs, va, vm, vc, rfl, hr4, hg4, hnd⟩
           have hgE := grown_trans (grown_ext (Ext.refl wr).drew (some (w.heap.size + 1))) hg4
           have hzd := (Ext.refl wr).drew.size
           have hV4 : w.heap.size + 1 + 1 < w4.heap.size := by have := hgE.size; omega
           have S4 := (hgE.cell_far ⟨w.heap.size + 1 + 1, 6, none⟩ (by show w.heap.size + 1 + 1 < wr.heap.size; omega) (by simp)).trans p6
           have S4' := (hgE.frozen_far ⟨w.heap.size + 1 + 1, 6, none⟩ (by show w.heap.size + 1 + 1 < wr.heap.size; omega) (by simp)).trans z6
           have HR6 : Hid ((w4.alloc (.cells #[.string i, .string nm, .int .u8 kd, .int .i64 fl, .int .i64 ow, .int .i64 pl, .slice na nm2 nc, .int .i64 wd, .int .i64 qu, .int .u8 sd, .int .i64 fa, .int .i64 tk2, .int .u8 vk, .int .i64 vn, .string vs, .slice va vm vc] 59)).ownsRow (w.heap.size + 1 + 1 + 1) 59 16 (.slice a j c) j cs.flatten) := Lib.hid ((HRow.out.kept hgE (.inr (fun e => by have := (HRo.out _ e).1; omega))).alloc _)
           have HR4 := Lib.hid hr4
           have HNd := Lib.hid hnd
           clear hr4 hg4 hnd))
      all_goals
        have hEa := (Ext.refl w4).alloc (.cells #[.string i, .string nm, .int .u8 kd, .int .i64 fl, .int .i64 ow, .int .i64 pl, .slice na nm2 nc, .int .i64 wd, .int .i64 qu, .int .u8 sd, .int .i64 fa, .int .i64 tk2, .int .u8 vk, .int .i64 vn, .string vs, .slice va vm vc] 59)
        have hp6 := (((HJ.out.step hgE).then hEa).far hgrow6 (fun k hk => by have := (HRo.out k hk).1; omega)).set 6 (by simp [snC]) (.slice (some ⟨gg, 0, none⟩) (j + 1) cap6)
        have hr6 := ((HR4.out.then hEa).kept hgrow6 (fun k hk => by have := (HRo.out k hk).1; omega)).kept (setOne_grown w6 (w.heap.size + 1 + 1) 6 (.slice (some ⟨gg, 0, none⟩) (j + 1) cap6)) (fun k hk => by injection hk with hk; omega)
        have hfar : Far 59 3 43 w xs (j + 1) (nodeS (some r)) (w6.setCell ⟨w.heap.size + 1 + 1, 6, none⟩ (.slice (some ⟨gg, 0, none⟩) (j + 1) cap6)) (some ⟨gg, 0, none⟩) (j + 1) cap6 := by
          cases hns : nodeS (some r) with
          | none =>
            have hrn : readNd r = none := by
              unfold nodeS at hns
              rw [Option.bind_some, Option.map_eq_none_iff] at hns
              exact hns
            exact ⟨fun _ => by rw [sn_chain HC.out, nodes_stop HRd.out hrn HMl.out]; rfl, fun _ h => by cases h⟩
          | some r' =>
            refine ⟨fun h => by (cases h), fun r2 h2 => ?_⟩
            injection h2 with h2
            subst h2
            obtain ⟨xs', n, e1, e2, -, e4, e5, ⟨F, e6⟩, e7⟩ := HNd.out r' hns
            injection e1 with e1
            subst e1
            refine ⟨ys, l ++ [n], HC.out, nodes_step HRd.out e2, ?_⟩
            have hw : OwnNds 59 3 43 (w.heap.size + 1 + 1 + 1) w6 (.slice (some ⟨gg, 0, none⟩) (j + 1) cap6) (l ++ [n]) := by
              refine OwnNds.snoc (w := w4.alloc (.cells #[.string i, .string nm, .int .u8 kd, .int .i64 fl, .int .i64 ow, .int .i64 pl, .slice na nm2 nc, .int .i64 wd, .int .i64 qu, .int .u8 sd, .int .i64 fa, .int .i64 tk2, .int .u8 vk, .int .i64 vn, .string vs, .slice va vm vc] 59)) (v := .slice a j c) HCs.out (fun i hi hc => ((HIn.out i hi hc).keep hgE (fun b hb => .inl (by injection hb with hb; omega)) (fun b hb => .inl hb)).keep hEa.grownBy (fun b hb => by cases hb) (fun b hb => .inl hb)) ?_ (by rw [HLn.out]; exact hown6) hgrow6 ?_
              · refine ⟨na, nm2, nc, _, _, _, _, F, e4, (e5.ext hEa).mono (by omega), fun b hb e => ?_, (e6.ext hEa).mono (by omega), fun b hb e => ?_, e7⟩
                · have q1 := (World.ownsRow.lt e5 b hb).1
                  have q2 := (HRo.out b e).2
                  omega
                · have q1 := (e6.bounds b hb).1
                  have q2 := (HRo.out b e).2
                  omega
              · rcases hat6 with q | q
                · exact .inl q.symm
                · right
                  show some gg = some _
                  rw [q, World.size_alloc]
            exact hw.kept (setOne_grown w6 (w.heap.size + 1 + 1) 6 (.slice (some ⟨gg, 0, none⟩) (j + 1) cap6)) (fun k hk => by injection hk with hk; omega)
        have HP6 : Hid (PSt w (w6.setCell ⟨w.heap.size + 1 + 1, 6, none⟩ (.slice (some ⟨gg, 0, none⟩) (j + 1) cap6)) (snC h0 h1 h2 h3 h4 h5 (.slice (some ⟨gg, 0, none⟩) (j + 1) cap6) tk)) := Lib.hid hp6
        have HR6n := Lib.hid hr6
        have HF6 := Lib.hid hfar
        generalize w6.setCell ⟨w.heap.size + 1 + 1, 6, none⟩ (.slice (some ⟨gg, 0, none⟩) (j + 1) cap6) = W6x at *
        clear hp6 hr6 hfar hown6 hgrow6 hat6 hlt6 S6 S6' S4 S4' hgE hV4 HR4 HR6 HNd HRow HRo HJ HR HIn HCs hEa mk p0 p1 p2 p3 p4 p5 p6 p7 z6
        go_wp2
        go_roundw
        case rel => exact ⟨j + 1, _, _, _, _, by omega, by go_num, HP6, HR6n, HF6⟩
        case measure => simp [intOf]; omega
end Go.Proofs.YtdienbcjfljjnaaGreatDoor
