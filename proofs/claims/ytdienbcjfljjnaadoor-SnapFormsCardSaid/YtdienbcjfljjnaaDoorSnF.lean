/- Walks: snap's reader: num, text, all. -/
import Derived.Test.YtdienbcjfljjnaaDoorSnA
import Derived.Test.YtdienbcjfljjnaaDoorSnD
import Derived.Test.YtdienbcjfljjnaaDoorFrgR
open Go.RowKit Go.Shelf
namespace Go.Proofs.YtdienbcjfljjnaaDoor
open Go Go.Proofs Fm

set_option maxRecDepth 100000 in
set_option maxHeartbeats 2000000 in
theorem snum_any (low high : Int) {w0 w : World} {R : Nat} {s : Option (List UInt8)} (h : RdS w0 w R s) :
    Calls Tryd.prog 41 #[.pointer (some ⟨R, 0, none⟩), .int .i64 low, .int .i64 high] w (RdfPost w0 w R (.int .i64 (numR low high s).1) (numR low high s).2) := by
  obtain ⟨v, ys, hF, hys⟩ := h
  have H := Lib.hid hF
  have HY := Lib.hid hys
  have c0 := hF.c0
  have c1 := hF.c1
  have f0 := hF.f0
  have f1 := hF.f1
  clear hF hys
  obtain ⟨b, hb⟩ : ∃ b, b = s.isNone := ⟨_, rfl⟩
  have HB := Lib.hid hb
  rw [← hb] at c1
  clear hb
  go_enter Tryd.func41, Tryd.ntmps41
  go_wp2_with fail
  refine (takeNum_any v ys w (H.out.bytes.ext H.out.ext)).mono ?_
  intro e w1 hp
  unfold TakeNumPost at hp
  cases hN : takeN ys with
  | none =>
    rw [hN] at hp
    obtain ⟨rfl, rfl⟩ := hp
    have HX : Hid (numR low high s = (0, none)) := Lib.hid (by
      cases s with
      | none => rfl
      | some xs =>
        obtain rfl := HY.out xs rfl
        exact numR_bad (hdR_none (hdN_none hN)))
    have HP : Hid (RdfPost w0 w R (.int .i64 (numR low high s).1) (numR low high s).2 (.returned (.int .i64 0)) (w.setCell ⟨R, 1, none⟩ (.bool true))) := Lib.hid (by
      rw [HX.out]
      exact ⟨rfl, ⟨v, ys, H.out.setBad true, fun xs h => by cases h⟩, setOne_grown w R 1 _⟩)
    clear hN
    cases b
    all_goals
      go_wp2
      go_ret
      exact HP.out
  | some p =>
    obtain ⟨n, k⟩ := p
    rw [hN] at hp
    obtain ⟨nq, rfl, rfl⟩ := hp
    have hE : Ext w (w.drewN nq) := (Ext.refl w).drewN nq
    have hr := H.out.then hE
    have HR := Lib.hid hr
    have c0' := hr.c0
    have c1' := hr.c1
    have f0' := hr.f0
    have f1' := hr.f1
    rw [← HB.out] at c1'
    have HBad : Hid (numR low high s = (0, none) → RdfPost w0 w R (.int .i64 (numR low high s).1) (numR low high s).2 (.returned (.int .i64 0)) ((w.drewN nq).setCell ⟨R, 1, none⟩ (.bool true))) := Lib.hid (fun hx => by
      rw [hx]
      exact ⟨rfl, ⟨v, ys, HR.out.setBad true, fun xs h => by cases h⟩, grown_trans (grown_ext hE _) (setOne_grown _ R 1 _)⟩)
    cases s with
    | none =>
      have HP := Lib.hid (HBad.out (numR_none low high))
      obtain rfl : b = true := HB.out
      clear hN c0 c1 f0 f1 hE hr HBad
      go_wp2
      go_ret
      exact HP.out
    | some xs =>
      obtain rfl := HY.out xs rfl
      obtain rfl : b = false := HB.out
      have hNb : hdN ys = some (n, ys.drop k) := hdN_some hN
      by_cases hlo : n < low
      · have HP := Lib.hid (HBad.out (numR_bad (hdR_bad hNb (.inl hlo))))
        clear hN c0 c1 f0 f1 hE hr HBad hNb
        go_wp2
        go_ret
        exact HP.out
      by_cases hhi : high < n
      · have HP := Lib.hid (HBad.out (numR_bad (hdR_bad hNb (.inr hhi))))
        clear hN c0 c1 f0 f1 hE hr HBad hNb
        go_wp2
        go_ret
        exact HP.out
      have HX : Hid (numR low high (some ys) = (n, some (ys.drop k))) := Lib.hid (numR_some (hdR_some hNb hlo hhi))
      have hb2 := hr.bytes.drop (k := k) (takeN_inv hN).2.2.2.1
      generalize dropV v k = v2 at *
      obtain ⟨a2, cap2, rfl, -⟩ := id hb2
      have HP : Hid (RdfPost w0 w R (.int .i64 (numR low high (some ys)).1) (numR low high (some ys)).2 (.returned (.int .i64 n)) (((w.drewN nq).setCell ⟨R, 1, none⟩ (.bool (decide (n < low) || decide (high < n)))).setCell ⟨R, 0, none⟩ (.slice a2 (ys.drop k).length cap2))) := Lib.hid (by
        rw [HX.out, show (decide (n < low) || decide (high < n)) = false by simp; omega]
        exact ⟨rfl, ⟨_, _, (HR.out.setBad false).setLeft hb2, fun xs h => by injection h⟩, grown_trans (grown_ext hE _) (grown_trans (setOne_grown _ R 1 _) (setOne_grown _ R 0 _))⟩)
      generalize (ys.drop k).length = ly at *
      clear hN c0 c1 f0 f1 hE hr HBad hNb hb2
      go_wp2
      go_ret
      exact HP.out

set_option maxRecDepth 100000 in
set_option maxHeartbeats 2000000 in
theorem stext_any (top : Int) (ht : isI64 top) {w0 w : World} {R : Nat} {s : Option (List UInt8)} (h : RdS w0 w R s) :
    Calls Tryd.prog 81 #[.pointer (some ⟨R, 0, none⟩), .int .i64 top] w (RdfPost w0 w R (.string (str (textR top s).1)) (textR top s).2) := by
  obtain ⟨v, ys, hF, hys⟩ := h
  have H := Lib.hid hF
  have HY := Lib.hid hys
  have c0 := hF.c0
  have c1 := hF.c1
  have f0 := hF.f0
  have f1 := hF.f1
  clear hF hys
  obtain ⟨b, hb⟩ : ∃ b, b = s.isNone := ⟨_, rfl⟩
  have HB := Lib.hid hb
  rw [← hb] at c1
  clear hb
  go_enter Tryd.func81, Tryd.ntmps81
  go_wp2_with fail
  refine (takeText_any v ys top ht w (H.out.bytes.ext H.out.ext)).mono ?_
  intro e w1 hp
  unfold TakeTextPost at hp
  cases hN : takeT ys top with
  | none =>
    rw [hN] at hp
    obtain ⟨nq, rfl, rfl⟩ := hp
    have hE : Ext w (w.drewN nq) := (Ext.refl w).drewN nq
    have hr := H.out.then hE
    have HR := Lib.hid hr
    have c0' := hr.c0
    have c1' := hr.c1
    have f0' := hr.f0
    have f1' := hr.f1
    rw [← HB.out] at c1'
    have HX : Hid (textR top s = ([], none)) := Lib.hid (by
      cases s with
      | none => rfl
      | some xs =>
        obtain rfl := HY.out xs rfl
        exact textR_bad (hdX_none hN))
    have HP : Hid (RdfPost w0 w R (.string (str (textR top s).1)) (textR top s).2 (.returned (.string { data := #[] })) ((w.drewN nq).setCell ⟨R, 1, none⟩ (.bool true))) := Lib.hid (by
      rw [HX.out]
      exact ⟨rfl, ⟨v, ys, HR.out.setBad true, fun xs h => by cases h⟩, grown_trans (grown_ext hE _) (setOne_grown _ R 1 _)⟩)
    clear hN c0 c1 f0 f1 hE hr
    cases b
    all_goals
      go_wp2
      go_ret
      exact HP.out
  | some p =>
    obtain ⟨k, n⟩ := p
    rw [hN] at hp
    obtain ⟨nq, rfl, rfl⟩ := hp
    have hE : Ext w (w.drewN nq) := (Ext.refl w).drewN nq
    have hr := H.out.then hE
    have HR := Lib.hid hr
    have c0' := hr.c0
    have c1' := hr.c1
    have f0' := hr.f0
    have f1' := hr.f1
    rw [← HB.out] at c1'
    cases s with
    | none =>
      have HP : Hid (RdfPost w0 w R (.string (str (textR top none).1)) (textR top none).2 (.returned (.string { data := #[] })) ((w.drewN nq).setCell ⟨R, 1, none⟩ (.bool true))) := Lib.hid
        ⟨rfl, ⟨v, ys, HR.out.setBad true, fun xs h => by cases h⟩, grown_trans (grown_ext hE _) (setOne_grown _ R 1 _)⟩
      obtain rfl : b = true := HB.out
      clear hN c0 c1 f0 f1 hE hr
      go_wp2
      go_ret
      exact HP.out
    | some xs =>
      obtain rfl := HY.out xs rfl
      obtain rfl : b = false := HB.out
      have HX : Hid (textR top (some ys) = ((ys.drop k).take n, some ((ys.drop k).drop n))) := Lib.hid (textR_some (hdX_some hN))
      obtain ⟨_, _, hkn⟩ := takeT_inv hN
      have hb2 := (hr.bytes.drop (k := k) (by omega)).drop (k := n) (by simp; omega)
      generalize dropV (dropV v k) n = v2 at *
      obtain ⟨a2, cap2, rfl, -⟩ := id hb2
      have HP : Hid (RdfPost w0 w R (.string (str (textR top (some ys)).1)) (textR top (some ys)).2 (.returned (.string (str ((ys.drop k).take n)))) (((w.drewN nq).setCell ⟨R, 1, none⟩ (.bool false)).setCell ⟨R, 0, none⟩ (.slice a2 ((ys.drop k).drop n).length cap2))) := Lib.hid (by
        rw [HX.out]
        exact ⟨rfl, ⟨_, _, (HR.out.setBad false).setLeft hb2, fun xs h => by injection h⟩, grown_trans (grown_ext hE _) (grown_trans (setOne_grown _ R 1 _) (setOne_grown _ R 0 _))⟩)
      generalize ((ys.drop k).drop n).length = ly at *
      generalize str ((ys.drop k).take n) = sx at *
      clear hN c0 c1 f0 f1 hE hr hb2 hkn
      go_wp2
      go_ret
      exact HP.out
end Go.Proofs.YtdienbcjfljjnaaDoor
