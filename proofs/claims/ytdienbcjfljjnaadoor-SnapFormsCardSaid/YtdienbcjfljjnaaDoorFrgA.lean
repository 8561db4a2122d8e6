/- Walks of package frag: Name, within; the reference's Name. -/
import Derived.Test.YtdienbcjfljjnaaDoorPlF
import Derived.Test.YtdienbcjfljjnaaDoorShelfF
import Derived.Test.YtdienbcjfljjnaaDoorWireC
import Derived.Test.YtdienbcjfljjnaaDoorVaA
import Derived.Test.YtdienbcjfljjnaaDoorPlA
open Go.RowKit Go.Shelf
namespace Go.Proofs.YtdienbcjfljjnaaDoor
open Go Go.Proofs Fm

theorem trim_let (s : List UInt8) (hs : s.length ≤ 9223372036854775807) (w : World) :
    Calls Tryd.prog 99 #[.string (str s), .string { data := #[97, 98, 99, 100, 101, 102, 103, 104, 105, 106, 107, 108, 109, 110, 111, 112, 113, 114, 115, 116, 117, 118, 119, 120, 121, 122, 48, 49, 50, 51, 52, 53, 54, 55, 56, 57, 95] }] w fun e w' => e = .returned (.string (str (Lib.trimS s letL))) ∧ Ext w w' := by
  have h := Tryd.strings_Trim_any (str s) { data := #[97, 98, 99, 100, 101, 102, 103, 104, 105, 106, 107, 108, 109, 110, 111, 112, 113, 114, 115, 116, 117, 118, 119, 120, 121, 122, 48, 49, 50, 51, 52, 53, 54, 55, 56, 57, 95] } w (by rw [str_size]; exact hs) (by decide) (ascii_of_all (by decide +kernel))
  rw [str_list] at h
  exact h

set_option maxHeartbeats 1000000 in
theorem name_any (s : List UInt8) (hs : s.length ≤ 9223372036854775807) (w : World) :
    Calls Tryd.prog 77 #[.string (str s)] w fun e w' => e = .returned (.bool (nameB s)) ∧ Ext w w' := by
  have hss := str_size s
  by_cases h1 : 1 ≤ s.length
  case neg =>
    have HX := Lib.hid (nameB_short h1)
    have h1' : ¬ (1 : Int) ≤ (s.length : Int) := by omega
    go_enter Tryd.func77, Tryd.ntmps77
    go_wp2
    go_ret
    exact ⟨by rw [HX.out]; rfl, Ext.refl w⟩
  have h1' : (1 : Int) ≤ (s.length : Int) := by omega
  by_cases h2 : s.length ≤ 20
  case neg =>
    have HX := Lib.hid (nameB_long h2)
    have h2' : ¬ (s.length : Int) ≤ 20 := by omega
    go_enter Tryd.func77, Tryd.ntmps77
    go_wp2
    go_ret
    exact ⟨by rw [HX.out]; rfl, Ext.refl w⟩
  have h2' : (s.length : Int) ≤ 20 := by omega
  have HX := Lib.hid (nameB_all h1 h2)
  have HN := Lib.hid (trim_nil s)
  go_enter Tryd.func77, Tryd.ntmps77
  go_wp2_with fail
  refine (trim_let s hs w).mono ?_
  rintro e w1 ⟨rfl, hE⟩
  cases ha : s.all letB with
  | true =>
    rw [HN.out.2 ha]
    have HA := Lib.hid ha
    have e1 : (str []).toList = ([] : List UInt8) := str_toList []
    clear ha
    go_wp2
    go_ret
    exact ⟨by rw [HX.out, HA.out]; simp_all, hE⟩
  | false =>
    obtain ⟨T, hT⟩ : ∃ T, T = Lib.trimS s letL := ⟨_, rfl⟩
    have hT0 : T ≠ [] := by rw [hT]; intro h; rw [HN.out.1 h] at ha; cases ha
    rw [← hT]
    have HA := Lib.hid ha
    have e1 : (str T).toList = T := str_toList T
    have e2 : T.isEmpty = false := by cases T with | nil => exact absurd rfl hT0 | cons _ _ => rfl
    clear ha hT
    go_wp2
    go_ret
    exact ⟨by rw [HX.out, HA.out]; simp_all, hE⟩

set_option maxHeartbeats 1000000 in
theorem within_any (n h : Int) (w : World) :
    Calls Tryd.prog 93 #[.int .i64 n, .int .i64 h] w fun e w' => e = .returned (.bool (decide (0 ≤ n) && decide (n ≤ h))) ∧ w = w' := by
  by_cases h0 : 0 ≤ n
  · go_enter Tryd.func93, Tryd.ntmps93
    go_wp2
    go_ret
    simp_all
  · go_enter Tryd.func93, Tryd.ntmps93
    go_wp2
    go_ret
    simp_all
    try omega

end Go.Proofs.YtdienbcjfljjnaaDoor

/- Walks: slices.IndexFunc, ContainsFunc at []string and []api.Item. -/
open Go.RowKit Go.Shelf
namespace Go.Proofs.YtdienbcjfljjnaaDoor
open Go Go.Proofs Fm

set_option maxRecDepth 100000 in
set_option maxHeartbeats 1000000 in
theorem indexS_inv (l : List (List UInt8)) (f : FuncId) (eg : ∀ args w, (callFunc f args).run Tryd.prog w = .ok (.enter f args) w) (caps : Array Value) (q : Nat → Bool) (J : Nat → World → Prop) (w : World) (v : Value) (h : strE.Row w l v) (hJ : ∀ i w', J i w' → Ext w w') (h0 : J 0 w)
    (hf : ∀ i (hi : i < l.length) w', J i w' → (∀ j, j < i → q j = false) → l[i].length ≤ 9223372036854775807 → Calls Tryd.prog f (#[.string (str l[i])] ++ caps) w' fun e w'' => e = .returned (.bool (q i)) ∧ J (i + 1) w'') :
    Calls Tryd.prog 109 #[v, .func (.func f) #[] caps] w (IdxPost l.length q J) := by
  obtain ⟨a, c, rfl, hlc, hcm, hR⟩ := strRow_slice h
  have HR := Lib.hid hR
  have HF := Lib.hid hf
  have HJ := Lib.hid hJ
  have hlm : l.length ≤ 9223372036854775807 := by omega
  clear h hR hf hJ
  go_enter Tryd.func109, Tryd.ntmps109
  go_wp2_with fail
  go_loopw [8] (fun i wr => ∃ j : Nat, j ≤ l.length ∧ i = .int .i64 j ∧ Hid (J j wr) ∧ Hid (∀ k, k < j → q k = false)) (fun i _ => l.length - (intOf i).toNat)
  case atStart => exact ⟨0, by omega, rfl, Lib.hid h0, Lib.hid (fun k hk => by omega)⟩
  case round =>
    clear h0
    obtain ⟨j, hj, rfl, HJj, HQ⟩ := hrel
    by_cases hlt : j < l.length
    · obtain ⟨b, off, rfl, hb, hc, hs⟩ := str_at HR.out (HJ.out _ _ HJj.out) j hlt
      have HS := Lib.hid hs
      clear hs
      go_wp2_with fail
      refine (HF.out j hlt wr HJj.out HQ.out HS.out).mono ?_
      rintro e w1 ⟨rfl, hJ1⟩
      have HJ1 := Lib.hid hJ1
      clear hJ1 hc
      cases hq : q j with
      | true =>
        have HX : Hid (IdxPost l.length q J (.returned (.int .i64 (j : Int))) w1) := Lib.hid (.inl ⟨j, hlt, hq, HQ.out, rfl, HJ1.out⟩)
        clear hq
        go_wp2
        go_ret
        exact HX.out
      | false =>
        have HQ1 : Hid (∀ k, k < j + 1 → q k = false) := Lib.hid (fun k hk => by
          by_cases h : k = j
          · rw [h]; exact hq
          · exact HQ.out k (by omega))
        clear hq
        go_wp2
        go_roundw
        case rel => exact ⟨j + 1, by omega, by go_num, HJ1, HQ1⟩
        case measure => simp [intOf]; omega
    · obtain rfl : j = l.length := by omega
      have HX : Hid (IdxPost l.length q J (.returned (.int .i64 (-1))) wr) := Lib.hid (.inr ⟨HQ.out, rfl, HJj.out⟩)
      go_wp2
      go_ret
      exact HX.out

set_option maxRecDepth 100000 in
set_option maxHeartbeats 1000000 in
theorem indexI_inv (l : List It) (f : FuncId) (eg : ∀ args w, (callFunc f args).run Tryd.prog w = .ok (.enter f args) w) (caps : Array Value) (q : Nat → Bool) (J : Nat → World → Prop) (w : World) (v : Value) (h : itE.Row w l v) (hJ : ∀ i w', J i w' → Ext w w') (h0 : J 0 w)
    (hf : ∀ i (hi : i < l.length) w' x, J i w' → (∀ j, j < i → q j = false) → ItV w' l[i] x → Calls Tryd.prog f (#[x] ++ caps) w' fun e w'' => e = .returned (.bool (q i)) ∧ J (i + 1) w'') :
    Calls Tryd.prog 92 #[v, .func (.func f) #[] caps] w (IdxPost l.length q J) := by
  obtain ⟨a, c, rfl, hlc, hcm⟩ := h.slice
  have HR := Lib.hid h
  have HF := Lib.hid hf
  have HJ := Lib.hid hJ
  have hlm : l.length ≤ 9223372036854775807 := by omega
  clear h hf hJ
  go_enter Tryd.func92, Tryd.ntmps92
  go_wp2_with fail
  go_loopw [8] (fun i wr => ∃ j : Nat, j ≤ l.length ∧ i = .int .i64 j ∧ Hid (J j wr) ∧ Hid (∀ k, k < j → q k = false)) (fun i _ => l.length - (intOf i).toNat)
  case atStart => exact ⟨0, by omega, rfl, Lib.hid h0, Lib.hid (fun k hk => by omega)⟩
  case round =>
    clear h0
    obtain ⟨j, hj, rfl, HJj, HQ⟩ := hrel
    by_cases hlt : j < l.length
    · obtain ⟨b, off, rfl, hb, aa, m, cc, c0, c1, c2, c3, c4, c5, hs⟩ := it_at HR.out (HJ.out _ _ HJj.out) j hlt
      have HS := Lib.hid (hs.ext (HJ.out _ _ HJj.out))
      clear hs
      go_wp2_with fail
      refine (HF.out j hlt wr _ HJj.out HQ.out HS.out).mono ?_
      rintro e w1 ⟨rfl, hJ1⟩
      have HJ1 := Lib.hid hJ1
      clear hJ1 c0 c1 c2 c3 c4 c5
      cases hq : q j with
      | true =>
        have HX : Hid (IdxPost l.length q J (.returned (.int .i64 (j : Int))) w1) := Lib.hid (.inl ⟨j, hlt, hq, HQ.out, rfl, HJ1.out⟩)
        clear hq
        go_wp2
        go_ret
        exact HX.out
      | false =>
        have HQ1 : Hid (∀ k, k < j + 1 → q k = false) := Lib.hid (fun k hk => by
          by_cases h : k = j
          · rw [h]; exact hq
          · exact HQ.out k (by omega))
        clear hq
        go_wp2
        go_roundw
        case rel => exact ⟨j + 1, by omega, by go_num, HJ1, HQ1⟩
        case measure => simp [intOf]; omega
    · obtain rfl : j = l.length := by omega
      have HX : Hid (IdxPost l.length q J (.returned (.int .i64 (-1))) wr) := Lib.hid (.inr ⟨HQ.out, rfl, HJj.out⟩)
      go_wp2
      go_ret
      exact HX.out

set_option maxRecDepth 100000 in
set_option maxHeartbeats 1000000 in
theorem hasS_inv (l : List (List UInt8)) (f : FuncId) (eg : ∀ args w, (callFunc f args).run Tryd.prog w = .ok (.enter f args) w) (caps : Array Value) (q : Nat → Bool) (J : Nat → World → Prop) (w : World) (v : Value) (h : strE.Row w l v) (hJ : ∀ i w', J i w' → Ext w w') (h0 : J 0 w)
    (hf : ∀ i (hi : i < l.length) w', J i w' → (∀ j, j < i → q j = false) → l[i].length ≤ 9223372036854775807 → Calls Tryd.prog f (#[.string (str l[i])] ++ caps) w' fun e w'' => e = .returned (.bool (q i)) ∧ J (i + 1) w'') :
    Calls Tryd.prog 94 #[v, .func (.func f) #[] caps] w (HasPost l.length q J) := by
  have hC := indexS_inv l f eg caps q J w v h hJ h0 hf
  obtain ⟨a, c, rfl, hlc, hcm, hR⟩ := strRow_slice h
  have HC := Lib.hid hC
  clear h hR hf hJ hC h0
  go_enter Tryd.func94, Tryd.ntmps94
  go_wp2_with fail
  refine HC.out.mono ?_
  rintro e w1 (⟨i, hi, h1, h2, rfl, h3⟩ | ⟨h1, rfl, h3⟩)
  · have HX : Hid (HasPost l.length q J (.returned (.bool true)) w1) := Lib.hid (.inl ⟨i, hi, h1, h2, rfl, h3⟩)
    clear h1 h2 h3
    have h0 : (0 : Int) ≤ (i : Int) := by omega
    go_wp2
    go_ret
    exact HX.out
  · have HX : Hid (HasPost l.length q J (.returned (.bool false)) w1) := Lib.hid (.inr ⟨h1, rfl, h3⟩)
    clear h1 h3
    go_wp2
    go_ret
    exact HX.out

set_option maxRecDepth 100000 in
set_option maxHeartbeats 1000000 in
theorem hasI_inv (l : List It) (f : FuncId) (eg : ∀ args w, (callFunc f args).run Tryd.prog w = .ok (.enter f args) w) (caps : Array Value) (q : Nat → Bool) (J : Nat → World → Prop) (w : World) (v : Value) (h : itE.Row w l v) (hJ : ∀ i w', J i w' → Ext w w') (h0 : J 0 w)
    (hf : ∀ i (hi : i < l.length) w' x, J i w' → (∀ j, j < i → q j = false) → ItV w' l[i] x → Calls Tryd.prog f (#[x] ++ caps) w' fun e w'' => e = .returned (.bool (q i)) ∧ J (i + 1) w'') :
    Calls Tryd.prog 61 #[v, .func (.func f) #[] caps] w (HasPost l.length q J) := by
  have hC := indexI_inv l f eg caps q J w v h hJ h0 hf
  obtain ⟨a, c, rfl, hlc, hcm⟩ := h.slice
  have HC := Lib.hid hC
  clear h hf hJ hC h0
  go_enter Tryd.func61, Tryd.ntmps61
  go_wp2_with fail
  refine HC.out.mono ?_
  rintro e w1 (⟨i, hi, h1, h2, rfl, h3⟩ | ⟨h1, rfl, h3⟩)
  · have HX : Hid (HasPost l.length q J (.returned (.bool true)) w1) := Lib.hid (.inl ⟨i, hi, h1, h2, rfl, h3⟩)
    clear h1 h2 h3
    have h0 : (0 : Int) ≤ (i : Int) := by omega
    go_wp2
    go_ret
    exact HX.out
  · have HX : Hid (HasPost l.length q J (.returned (.bool false)) w1) := Lib.hid (.inr ⟨h1, rfl, h3⟩)
    clear h1 h3
    go_wp2
    go_ret
    exact HX.out
/-- Where the world only grows. -/
theorem hasS_any (l : List (List UInt8)) (f : FuncId) (eg : ∀ args w, (callFunc f args).run Tryd.prog w = .ok (.enter f args) w) (caps : Array Value) (p : List UInt8 → Bool) (w : World) (v : Value) (h : strE.Row w l v)
    (hf : ∀ s w', s ∈ l → Ext w w' → s.length ≤ 9223372036854775807 → Calls Tryd.prog f (#[.string (str s)] ++ caps) w' fun e w'' => e = .returned (.bool (p s)) ∧ Ext w' w'') :
    Calls Tryd.prog 94 #[v, .func (.func f) #[] caps] w fun e w' => e = .returned (.bool (l.any p)) ∧ Ext w w' := by
  refine (hasS_inv l f eg caps (fun i => if hi : i < l.length then p l[i] else false) (fun _ => Ext w) w v h (fun _ _ h => h) (Ext.refl w) (fun i hi w' hE _ hs => ?_)).mono ?_
  · simp only [dif_pos hi]
    exact (hf l[i] w' (List.getElem_mem hi) hE hs).mono fun e w'' ⟨a, b⟩ => ⟨a, hE.trans b⟩
  · rintro e w' (⟨i, hi, h1, h2, rfl, hE⟩ | ⟨h1, rfl, hE⟩)
    · simp only [dif_pos hi] at h1
      exact ⟨by rw [any_some hi h1], hE⟩
    · refine ⟨?_, hE⟩
      rw [any_none fun j hj => ?_]
      have := h1 j hj
      simpa only [dif_pos hj] using this
theorem hasI_any (l : List It) (f : FuncId) (eg : ∀ args w, (callFunc f args).run Tryd.prog w = .ok (.enter f args) w) (caps : Array Value) (p : It → Bool) (w : World) (v : Value) (h : itE.Row w l v)
    (hf : ∀ s w' x, s ∈ l → Ext w w' → ItV w' s x → Calls Tryd.prog f (#[x] ++ caps) w' fun e w'' => e = .returned (.bool (p s)) ∧ Ext w' w'') :
    Calls Tryd.prog 61 #[v, .func (.func f) #[] caps] w fun e w' => e = .returned (.bool (l.any p)) ∧ Ext w w' := by
  refine (hasI_inv l f eg caps (fun i => if hi : i < l.length then p l[i] else false) (fun _ => Ext w) w v h (fun _ _ h => h) (Ext.refl w) (fun i hi w' x hE _ hs => ?_)).mono ?_
  · simp only [dif_pos hi]
    exact (hf l[i] w' x (List.getElem_mem hi) hE hs).mono fun e w'' ⟨a, b⟩ => ⟨a, hE.trans b⟩
  · rintro e w' (⟨i, hi, h1, h2, rfl, hE⟩ | ⟨h1, rfl, hE⟩)
    · simp only [dif_pos hi] at h1
      exact ⟨by rw [any_some hi h1], hE⟩
    · refine ⟨?_, hE⟩
      rw [any_none fun j hj => ?_]
      have := h1 j hj
      simpa only [dif_pos hj] using this
end Go.Proofs.YtdienbcjfljjnaaDoor

/- Walks of package frag: fits, Right; the reference's item, Right. -/
open Go.RowKit Go.Shelf
namespace Go.Proofs.YtdienbcjfljjnaaDoor
open Go Go.Proofs Fm

theorem ffits1_any (s : List UInt8) (hs : s.length ≤ 9223372036854775807) (w : World) :
    Calls Tryd.prog 95 #[.string (str s)] w fun e w' => e = .returned (.bool (!nameB s)) ∧ Ext w w' := by
  cases hb : nameB s with
  | true =>
    go_enter Tryd.func95, Tryd.ntmps95
    go_wp2_with fail
    refine (name_any s hs w).mono ?_
    rw [hb]
    rintro e w1 ⟨rfl, hE⟩
    clear hb
    go_wp2
    go_ret
    exact ⟨rfl, hE⟩
  | false =>
    go_enter Tryd.func95, Tryd.ntmps95
    go_wp2_with fail
    refine (name_any s hs w).mono ?_
    rw [hb]
    rintro e w1 ⟨rfl, hE⟩
    clear hb
    go_wp2
    go_ret
    exact ⟨rfl, hE⟩

theorem any_not_all (l : List (List UInt8)) : l.any (fun s => !nameB s) = !l.all nameB := by
  induction l with
  | nil => rfl
  | cons s l ih => rw [List.any_cons, List.all_cons, ih]; cases nameB s <;> rfl
theorem anyI_not_all (l : List It) : l.any (fun s => !itB s) = !l.all itB := by
  induction l with
  | nil => rfl
  | cons s l ih => rw [List.any_cons, List.all_cons, ih]; cases itB s <;> rfl
theorem itB_noname {x : It} (h : nameB x.name = false) : itB x = false := by unfold itB; rw [h]; rfl
theorem itB_nolen {x : It} (h : ¬ x.after.length ≤ 20) : itB x = false := by
  cases e : itB x with
  | false => rfl
  | true => exact absurd (itB_iff.1 e).2.1 h
theorem itB_noquota {x : It} (h : ¬ (0 ≤ x.quota ∧ x.quota ≤ 400)) : itB x = false := by
  cases e : itB x with
  | false => rfl
  | true => exact absurd ⟨(itB_iff.1 e).2.2.1, (itB_iff.1 e).2.2.2.1⟩ h
theorem itB_noafter {x : It} (h : x.after.all nameB = false) : itB x = false := by
  cases e : itB x with
  | false => rfl
  | true => rw [(itB_iff.1 e).2.2.2.2.1] at h; cases h
theorem itB_rest {x : It} (h1 : nameB x.name = true) (h2 : x.after.length ≤ 20) (h3 : 0 ≤ x.quota ∧ x.quota ≤ 400) (h4 : x.after.all nameB = true) :
    itB x = (if x.kind = 0 then decide (x.over = []) && decide (x.width = 0) else decide (x.kind = 1) && nameB x.over && (decide (0 ≤ x.width) && decide (x.width ≤ 40))) := by
  unfold itB; rw [h1, h4]; simp [h2, h3.1, h3.2]

set_option maxHeartbeats 4000000 in
theorem ffits_any (x : It) (w : World) (v : Value) (h : ItV w x v) :
    Calls Tryd.prog 63 #[v] w fun e w' => e = .returned (.bool (itB x)) ∧ Ext w w' := by
  obtain ⟨a, m, c, rfl, hr, ln, lo, iw, iq⟩ := h
  have hm : m = x.after.length := by
    obtain ⟨_, _, e, _⟩ := hr.slice
    injection e
  have HR := Lib.hid hr
  have HLn := Lib.hid ln
  have HLo := Lib.hid lo
  clear hr ln lo
  have hss := str_size x.over
  have hml : m ≤ 9223372036854775807 := by rw [hm]; exact HR.out.length_le
  have HE0 := Lib.hid ((Ext.refl w).alloc (.cells #[.string (str x.name), .int .u8 (x.kind.toNat : Int), .slice a m c, .string (str x.over), .int .i64 x.width, .int .i64 x.quota] 107))
  have HB0 := Lib.hid (BoxL.new w [.string (str x.name), .int .u8 (x.kind.toNat : Int), .slice a m c, .string (str x.over), .int .i64 x.width, .int .i64 x.quota] 107)
  have hE0 := HE0.out
  have hb0 : BoxL (w.alloc (.cells #[.string (str x.name), .int .u8 (x.kind.toNat : Int), .slice a m c, .string (str x.over), .int .i64 x.width, .int .i64 x.quota] 107)) w.heap.size [.string (str x.name), .int .u8 (x.kind.toNat : Int), .slice a m c, .string (str x.over), .int .i64 x.width, .int .i64 x.quota] := HB0.out
  clear HE0 HB0
  cases hn : nameB x.name with
  | false =>
    have HX := Lib.hid (itB_noname hn)
    have HN := Lib.hid hn
    clear hn hm
    go_enter Tryd.func63, Tryd.ntmps63
    go_wp2_with fail
    generalize w.alloc (.cells #[.string (str x.name), .int .u8 (x.kind.toNat : Int), .slice a m c, .string (str x.over), .int .i64 x.width, .int .i64 x.quota] 107) = W0 at *
    refine (name_any x.name HLn.out W0).mono ?_
    rw [HN.out]
    rintro e w1 ⟨rfl, hE1⟩
    have HE1 := Lib.hid (hE0.trans hE1)
    clear hE1 hb0 hE0
    go_wp2
    go_ret
    exact ⟨by rw [HX.out]; rfl, HE1.out⟩
  | true =>
  by_cases ha : x.after.length ≤ 20
  case neg =>
    have HX := Lib.hid (itB_nolen ha)
    have HN := Lib.hid hn
    have ha' : (20 : Int) < (m : Int) := by omega
    clear hn hm ha
    go_enter Tryd.func63, Tryd.ntmps63
    go_wp2_with fail
    generalize w.alloc (.cells #[.string (str x.name), .int .u8 (x.kind.toNat : Int), .slice a m c, .string (str x.over), .int .i64 x.width, .int .i64 x.quota] 107) = W0 at *
    refine (name_any x.name HLn.out W0).mono ?_
    rw [HN.out]
    rintro e w1 ⟨rfl, hE1⟩
    have HE1 := Lib.hid (hE0.trans hE1)
    obtain ⟨p0, p1, p2, p3, p4, p5⟩ := (hb0.ext hE1).six
    clear hE1 hb0 hE0
    go_wp2
    go_ret
    exact ⟨by rw [HX.out]; rfl, HE1.out⟩
  have ha' : ¬ (20 : Int) < (m : Int) := by omega
  by_cases hq : 0 ≤ x.quota ∧ x.quota ≤ 400
  case neg =>
    have HX := Lib.hid (itB_noquota hq)
    have HN := Lib.hid hn
    have HQ := Lib.hid (show (decide (0 ≤ x.quota) && decide (x.quota ≤ 400)) = false by simp; omega)
    clear hn hm ha hq
    go_enter Tryd.func63, Tryd.ntmps63
    go_wp2_with fail
    generalize w.alloc (.cells #[.string (str x.name), .int .u8 (x.kind.toNat : Int), .slice a m c, .string (str x.over), .int .i64 x.width, .int .i64 x.quota] 107) = W0 at *
    refine (name_any x.name HLn.out W0).mono ?_
    rw [HN.out]
    rintro e w1 ⟨rfl, hE1⟩
    have HE1 := Lib.hid (hE0.trans hE1)
    obtain ⟨p0, p1, p2, p3, p4, p5⟩ := (hb0.ext hE1).six
    clear hE1 hb0 hE0
    go_wp2_with fail
    refine (within_any x.quota 400 w1).mono ?_
    rw [HQ.out]
    rintro e w2 ⟨rfl, rfl⟩
    go_wp2
    go_ret
    exact ⟨by rw [HX.out]; rfl, HE1.out⟩
  have HQ := Lib.hid (show (decide (0 ≤ x.quota) && decide (x.quota ≤ 400)) = true by simp; omega)
  have HN := Lib.hid hn
  have HK := fun h => itB_rest hn ha hq h
  have HKh := Lib.hid HK
  clear HK
  have HA := Lib.hid (any_not_all x.after)
  clear hn hm ha hq
  go_enter Tryd.func63, Tryd.ntmps63
  go_wp2_with fail
  generalize w.alloc (.cells #[.string (str x.name), .int .u8 (x.kind.toNat : Int), .slice a m c, .string (str x.over), .int .i64 x.width, .int .i64 x.quota] 107) = W0 at *
  refine (name_any x.name HLn.out W0).mono ?_
  rw [HN.out]
  rintro e w1 ⟨rfl, hE1⟩
  have HE1 := Lib.hid (hE0.trans hE1)
  have HB1 := Lib.hid (hb0.ext hE1)
  obtain ⟨p0, p1, p2, p3, p4, p5⟩ := HB1.out.six
  clear hE1 hb0 hE0
  go_wp2_with fail
  refine (within_any x.quota 400 w1).mono ?_
  rw [HQ.out]
  rintro e w2 ⟨rfl, rfl⟩
  go_wp2_with fail
  refine (hasS_any x.after 95 Tryd.call95 #[] (fun s => !nameB s) w1 _ (HR.out.ext HE1.out) (fun s w' _ _ hs => ffits1_any s hs w')).mono ?_
  rw [HA.out]
  rintro e w2 ⟨rfl, hE2⟩
  have HE2 := Lib.hid (HE1.out.trans hE2)
  have HB2 := Lib.hid (HB1.out.ext hE2)
  clear hE2 p0 p1 p2 p3 p4 p5 HE1 HB1
  obtain ⟨p0, p1, p2, p3, p4, p5⟩ := HB2.out.six
  cases hall : x.after.all nameB with
  | false =>
    have HX := Lib.hid (itB_noafter hall)
    clear hall
    go_wp2
    go_ret
    exact ⟨by rw [HX.out]; rfl, HE2.out⟩
  | true =>
  have HX := Lib.hid (HKh.out hall)
  clear hall HKh
  by_cases hk0 : x.kind = 0
  · have HX0 := Lib.hid (show itB x = ((str x.over).toList.isEmpty && (x.width == 0)) by rw [HX.out.trans (if_pos hk0), str_toList, Bool.eq_iff_iff]; simp)
    have f0 : ((x.kind.toNat : Int) == 0) = true := by rw [hk0]; rfl
    generalize (x.kind.toNat : Int) = K at *
    clear HX hk0
    go_wp2
    all_goals go_ret
    all_goals
      refine ⟨?_, HE2.out⟩
      have hX := HX0.out
      clear HX0
      rw [hX]
      simp_all
  have HX0 := Lib.hid (HX.out.trans (if_neg hk0))
  have f0 : ((x.kind.toNat : Int) == 0) = false := by rw [show (0 : Int) = ((0 : UInt8).toNat : Int) from rfl, u8_eq]; simpa using hk0
  clear HX
  by_cases hk1 : x.kind = 1
  case neg =>
    have f1 : ((x.kind.toNat : Int) == 1) = false := by rw [show (1 : Int) = ((1 : UInt8).toNat : Int) from rfl, u8_eq]; simpa using hk1
    have HX1 := Lib.hid (show itB x = false by rw [HX0.out]; simp [hk1])
    generalize (x.kind.toNat : Int) = K at *
    clear hk0 hk1 HX0
    go_wp2
    go_ret
    exact ⟨by rw [HX1.out]; rfl, HE2.out⟩
  have f1 : ((x.kind.toNat : Int) == 1) = true := by rw [hk1]; rfl
  have HX1 := Lib.hid (show itB x = (nameB x.over && (decide (0 ≤ x.width) && decide (x.width ≤ 40))) by rw [HX0.out]; simp [hk1])
  generalize (x.kind.toNat : Int) = K at *
  clear hk0 hk1 HX0
  go_wp2_with fail
  refine (name_any x.over HLo.out w2).mono ?_
  cases hv : nameB x.over with
  | false =>
    rintro e w3 ⟨rfl, hE3⟩
    have HE3 := Lib.hid (HE2.out.trans hE3)
    have HX2 := Lib.hid (show itB x = false by rw [HX1.out, hv]; rfl)
    clear hE3 hv
    go_wp2
    go_ret
    exact ⟨by rw [HX2.out]; rfl, HE3.out⟩
  | true =>
    rintro e w3 ⟨rfl, hE3⟩
    have HE3 := Lib.hid (HE2.out.trans hE3)
    have HB3 := Lib.hid (HB2.out.ext hE3)
    have HX2 := Lib.hid (show itB x = (decide (0 ≤ x.width) && decide (x.width ≤ 40)) by rw [HX1.out, hv]; rfl)
    clear hE3 hv p0 p1 p2 p3 p4 p5
    obtain ⟨p0, p1, p2, p3, p4, p5⟩ := HB3.out.six
    go_wp2_with fail
    refine (within_any x.width 40 w3).mono ?_
    rw [← HX2.out]
    rintro e w4 ⟨rfl, rfl⟩
    go_wp2
    go_ret
    exact ⟨rfl, HE3.out⟩

theorem right1_any (x : It) (w : World) (v : Value) (h : ItV w x v) :
    Calls Tryd.prog 62 #[v] w fun e w' => e = .returned (.bool (!itB x)) ∧ Ext w w' := by
  have HI := Lib.hid h
  obtain ⟨a, m, c, rfl, -⟩ := h
  have hE0 := (Ext.refl w).alloc (.cells #[.string (str x.name), .int .u8 (x.kind.toNat : Int), .slice a m c, .string (str x.over), .int .i64 x.width, .int .i64 x.quota] 107)
  cases hb : itB x with
  | true =>
    have HB := Lib.hid hb
    clear hb
    go_enter Tryd.func62, Tryd.ntmps62
    go_wp2_with fail
    refine (ffits_any x _ _ (HI.out.ext hE0)).mono ?_
    rw [HB.out]
    rintro e w1 ⟨rfl, hE⟩
    have hE1 := hE0.trans hE
    go_wp2
    go_ret
    exact ⟨rfl, hE1⟩
  | false =>
    have HB := Lib.hid hb
    clear hb
    go_enter Tryd.func62, Tryd.ntmps62
    go_wp2_with fail
    refine (ffits_any x _ _ (HI.out.ext hE0)).mono ?_
    rw [HB.out]
    rintro e w1 ⟨rfl, hE⟩
    have hE1 := hE0.trans hE
    go_wp2
    go_ret
    exact ⟨rfl, hE1⟩

set_option maxHeartbeats 1000000 in
theorem fright_any (l : List It) (w : World) (v : Value) (h : itE.Row w l v) :
    Calls Tryd.prog 28 #[v] w fun e w' => e = .returned (.bool (fragB l)) ∧ Ext w w' := by
  obtain ⟨a, c, rfl, hlc, hcm⟩ := h.slice
  have HR := Lib.hid h
  clear h
  by_cases hl : l.length ≤ 40
  case neg =>
    have HX := Lib.hid (show fragB l = false by unfold fragB; simp [hl])
    have hl' : ¬ (l.length : Int) ≤ 40 := by omega
    clear hl
    go_enter Tryd.func28, Tryd.ntmps28
    go_wp2
    go_ret
    exact ⟨by rw [HX.out]; rfl, Ext.refl w⟩
  have HX := Lib.hid (show fragB l = l.all itB by unfold fragB; simp [hl])
  have hl' : (l.length : Int) ≤ 40 := by omega
  have HA := Lib.hid (anyI_not_all l)
  clear hl
  go_enter Tryd.func28, Tryd.ntmps28
  go_wp2_with fail
  refine (hasI_any l 62 Tryd.call62 #[] (fun s => !itB s) w _ HR.out (fun s w' x _ _ hs => right1_any s w' x hs)).mono ?_
  rw [HA.out]
  rintro e w2 ⟨rfl, hE2⟩
  cases hb : l.all itB with
  | true =>
    have HX2 := Lib.hid (HX.out.trans hb)
    clear hb
    go_wp2
    go_ret
    exact ⟨by rw [HX2.out]; rfl, hE2⟩
  | false =>
    have HX2 := Lib.hid (HX.out.trans hb)
    clear hb
    go_wp2
    go_ret
    exact ⟨by rw [HX2.out]; rfl, hE2⟩
end Go.Proofs.YtdienbcjfljjnaaDoor
