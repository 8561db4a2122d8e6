/- WireFar and WireTells answer true at every input: the walks. -/
import Derived.Test.YtoclheffkhdbhaaWireW
import Derived.Test.YtoclheffkhdbhaaWireR
import Derived.Test.YtoclheffkhdbhaaWireS
import Derived.Test.YtoclheffkhdbhaaLawOne
open Go.RowKit Go.Shelf
namespace Go.Proofs.Ytoclheffkhdbhaa
open Go Go.Proofs Fm

/-- The test of the begin: of two numbers' bytes. -/
theorem far_eq {a b : Int} (ha : isI64 a) (hb : isI64 b) : ((numB a).take (min (numB a).length (numB b).length) = (numB b).take (min (numB a).length (numB b).length)) = (a = b) := by
  apply propext
  constructor
  · intro h
    rcases Nat.le_total (numB a).length (numB b).length with hl | hl
    · rw [Nat.min_eq_left hl, List.take_length] at h
      have e := List.take_append_drop (numB a).length (numB b)
      rw [← h] at e
      exact numB_inj ha hb (r := (numB b).drop (numB a).length) (s := []) (by rw [List.append_nil]; exact e)
    · rw [Nat.min_eq_right hl, List.take_length] at h
      have e := List.take_append_drop (numB b).length (numB a)
      rw [h] at e
      exact numB_inj ha hb (r := []) (s := (numB a).drop (numB b).length) (by rw [List.append_nil]; exact e.symm)
  · rintro rfl; rfl
theorem far_mono {a b : Int} (h : (0 ≤ a ∧ a ≤ b) ∨ (a < 0 ∧ b ≤ a)) : (numB a).length ≤ (numB b).length := by
  unfold numB grp
  refine grpN_mono 10 _ _ ?_
  unfold zig
  rcases h with ⟨h1, h2⟩ | ⟨h1, h2⟩
  · rw [if_pos h1, if_pos (by omega)]; omega
  · rw [if_neg (by omega), if_neg (by omega)]; omega

theorem num_nil (m : Int) (hm : isI64 m) (w : World) : Calls Try.prog 11 #[.slice none 0 0, .int .i64 m] w (RetBytes w (numB m)) :=
  num_any _ [] w (Bytes.nil w) (by simp) m hm

theorem slice_b {w : World} {v : Value} {xs : List UInt8} (h : Bytes w v xs) (k : Int) (h0 : 0 ≤ k) (h1 : k ≤ xs.length) (w' : World) :
    (Instr.slice 22 v none (some (.int .i64 k)) none).run Try.prog w' = .ok (takeV v k.toNat) w' := by
  obtain ⟨a, cap, rfl, hc, _⟩ := h
  exact slice_upto a xs.length cap k h0 (by omega) w'

set_option maxHeartbeats 2000000 in
theorem wireFar_any (a b : Int) (ha : isI64 a) (hb : isI64 b) (w : World) :
    Calls Try.prog 7 #[.int .i64 a, .int .i64 b] w fun e w' => e = .returned (.bool true) ∧ Ext w w' := by
  have HA := Lib.hid ha; clear ha
  have HB := Lib.hid hb; clear hb
  go_enter Try.func7, Try.ntmps7
  go_wp2_with fail
  refine (num_nil a HA.out w).mono ?_
  rintro e w1 ⟨v1, rfl, hr1⟩
  go_wp2_with fail
  refine (num_nil b HB.out w1).mono ?_
  rintro e w2 ⟨v2, rfl, hr2⟩
  have hE2 := hr1.2.trans hr2.2
  have b1 := hr1.bytes.ext hr2.2
  have b2 := hr2.bytes
  clear hr1 hr2
  obtain ⟨la, hla⟩ : ∃ la, la = (numB a).length := ⟨_, rfl⟩
  obtain ⟨lb, hlb⟩ : ∃ lb, lb = (numB b).length := ⟨_, rfl⟩
  have hl1 := len_bytes b1
  have hl2 := len_bytes b2
  rw [← hla] at hl1
  rw [← hlb] at hl2
  have p1 : 1 ≤ la := by rw [hla]; exact numB_pos a
  have p2 : la ≤ 10 := by rw [hla]; exact numB_le a
  have p3 : lb ≤ 10 := by rw [hlb]; exact numB_le b
  have hmono : (0 ≤ a ∧ a ≤ b) ∨ (a < 0 ∧ b ≤ a) → la ≤ lb := fun h => by rw [hla, hlb]; exact far_mono h
  have hsize : ∀ W, Calls Try.prog 18 #[.int .i64 a] W fun e w' => e = .returned (.int .i64 (la : Nat)) ∧ Ext W w' := fun W => by rw [hla]; exact size_any a HA.out W
  have hs1 := fun k h0 (h1 : k ≤ (la : Int)) => slice_b b1 k h0 (by rw [← hla]; exact h1)
  have hs2 := fun k h0 (h1 : k ≤ (lb : Int)) => slice_b b2 k h0 (by rw [← hlb]; exact h1)
  have HMONO := Lib.hid hmono; clear hmono
  have HSIZE := Lib.hid hsize; clear hsize
  have HS1 := Lib.hid hs1; clear hs1
  have HS2 := Lib.hid hs2; clear hs2
  have hfe := far_eq HA.out HB.out
  rw [← hla, ← hlb] at hfe
  have bb1 := fun k (h : k ≤ la) => b1.take (k := k) (by rw [← hla]; exact h)
  have bb2 := fun k (h : k ≤ lb) => b2.take (k := k) (by rw [← hlb]; exact h)
  have HFE := Lib.hid hfe; clear hfe
  have HB1 := Lib.hid bb1; clear bb1
  have HB2 := Lib.hid bb2; clear bb2
  clear hla hlb b1 b2
  go_wp2_with fail
  refine (HSIZE.out _).mono ?_
  rintro e w3 ⟨rfl, hE3⟩
  have hE := hE2.trans hE3
  clear HSIZE hE2
  rcases Int.lt_or_le a 0 with h0 | h0
  · have h0' : ¬ 0 ≤ a := by omega
    by_cases h1 : b ≤ a
    · have hm := HMONO.out (.inr ⟨h0, h1⟩)
      by_cases h2 : a = b
      · clear h1
        have h1 : b ≤ a := by omega
        have H2 := Lib.hid h2; clear h2
        have h3 : a ≤ b := by have := H2.out; omega
        have hfe := HFE.out
        rw [show min la lb = la by omega] at hfe
        have s1 := HS1.out la (by omega) (by omega)
        have s2 := HS2.out la (by omega) (by omega)
        rw [Int.toNat_natCast] at s1 s2
        have t1 := (HB1.out la (by omega)).ext hE3
        have t2 := (HB2.out la (by omega)).ext hE3
        have hsm : (numB a).take la = (numB b).take la := by rw [hfe]; omega
        have hab : (a == b) = true := by simp; omega
        have HSM := Lib.hid hsm; clear hsm hfe
        go_wp2_with fail
        obtain ⟨WA, hWA⟩ : ∃ WA, WA = w3 := ⟨_, rfl⟩
        go_region_held3 (fun _ => True) (exact trivial)
          (first
            | (go_at_call 10; refine (same_true (Bytes.ext t1 ((Ext.refl _).drew)) (Bytes.ext t2 ((Ext.refl _).drew)) HSM.out).mono ?_; rintro e w4 ⟨rfl, rfl⟩)
            | (go_at_call 8; refine (awake07 _).mono ?_; rintro e w5 ⟨rfl, hE5⟩))
        go_wp2
        go_ret
        exact ⟨rfl, hE.trans (((Ext.refl w3).drew).trans hE5)⟩
      · have h3 : b < a := by omega
        clear h2
        have hfe := HFE.out
        rw [show min la lb = la by omega] at hfe
        have s1 := HS1.out la (by omega) (by omega)
        have s2 := HS2.out la (by omega) (by omega)
        rw [Int.toNat_natCast] at s1 s2
        have t1 := (HB1.out la (by omega)).ext hE3
        have t2 := (HB2.out la (by omega)).ext hE3
        have hsm : (numB a).take la ≠ (numB b).take la := by rw [ne_eq, hfe]; omega
        have hab : (a == b) = false := by simp; omega
        have HSM := Lib.hid hsm; clear hsm hfe
        go_wp2_with fail
        obtain ⟨WA, hWA⟩ : ∃ WA, WA = w3 := ⟨_, rfl⟩
        go_region_held3 (fun _ => True) (exact trivial)
          (first
            | (go_at_call 10; refine (same_false (Bytes.ext t1 ((Ext.refl _).drew)) (Bytes.ext t2 ((Ext.refl _).drew)) HSM.out).mono ?_; rintro e w4 ⟨rfl, rfl⟩)
            | (go_at_call 8; refine (awake07 _).mono ?_; rintro e w5 ⟨rfl, hE5⟩))
        go_wp2
        go_ret
        exact ⟨rfl, hE.trans (((Ext.refl w3).drew).trans hE5)⟩
    · have h3 : a < b := by omega
      by_cases hm : la ≤ lb
      · have hfe := HFE.out
        rw [show min la lb = la by omega] at hfe
        have s1 := HS1.out la (by omega) (by omega)
        have s2 := HS2.out la (by omega) (by omega)
        rw [Int.toNat_natCast] at s1 s2
        have t1 := (HB1.out la (by omega)).ext hE3
        have t2 := (HB2.out la (by omega)).ext hE3
        have hsm : (numB a).take la ≠ (numB b).take la := by rw [ne_eq, hfe]; omega
        have hab : (a == b) = false := by simp; omega
        have HSM := Lib.hid hsm; clear hsm hfe
        go_wp2_with fail
        obtain ⟨WA, hWA⟩ : ∃ WA, WA = w3 := ⟨_, rfl⟩
        go_region_held3 (fun _ => True) (exact trivial)
          (first
            | (go_at_call 10; refine (same_false (Bytes.ext t1 ((Ext.refl _).drew)) (Bytes.ext t2 ((Ext.refl _).drew)) HSM.out).mono ?_; rintro e w4 ⟨rfl, rfl⟩)
            | (go_at_call 8; refine (awake07 _).mono ?_; rintro e w5 ⟨rfl, hE5⟩))
        go_wp2
        go_ret
        exact ⟨rfl, hE.trans (((Ext.refl w3).drew).trans hE5)⟩
      · have hfe := HFE.out
        rw [show min la lb = lb by omega] at hfe
        have s1 := HS1.out lb (by omega) (by omega)
        have s2 := HS2.out lb (by omega) (by omega)
        rw [Int.toNat_natCast] at s1 s2
        have t1 := (HB1.out lb (by omega)).ext hE3
        have t2 := (HB2.out lb (by omega)).ext hE3
        have hsm : (numB a).take lb ≠ (numB b).take lb := by rw [ne_eq, hfe]; omega
        have hab : (a == b) = false := by simp; omega
        have HSM := Lib.hid hsm; clear hsm hfe
        go_wp2_with fail
        obtain ⟨WA, hWA⟩ : ∃ WA, WA = w3 := ⟨_, rfl⟩
        go_region_held3 (fun _ => True) (exact trivial)
          (first
            | (go_at_call 10; refine (same_false (Bytes.ext t1 ((Ext.refl _).drew)) (Bytes.ext t2 ((Ext.refl _).drew)) HSM.out).mono ?_; rintro e w4 ⟨rfl, rfl⟩)
            | (go_at_call 8; refine (awake07 _).mono ?_; rintro e w5 ⟨rfl, hE5⟩))
        go_wp2
        go_ret
        exact ⟨rfl, hE.trans (((Ext.refl w3).drew).trans hE5)⟩
  · have h0' : ¬ a < 0 := by omega
    by_cases h1 : a ≤ b
    · have hm := HMONO.out (.inl ⟨h0, h1⟩)
      by_cases h2 : a = b
      · have H2 := Lib.hid h2; clear h2
        have h3 : b ≤ a := by have := H2.out; omega
        have hfe := HFE.out
        rw [show min la lb = la by omega] at hfe
        have s1 := HS1.out la (by omega) (by omega)
        have s2 := HS2.out la (by omega) (by omega)
        rw [Int.toNat_natCast] at s1 s2
        have t1 := (HB1.out la (by omega)).ext hE3
        have t2 := (HB2.out la (by omega)).ext hE3
        have hsm : (numB a).take la = (numB b).take la := by rw [hfe]; omega
        have hab : (a == b) = true := by simp; omega
        have HSM := Lib.hid hsm; clear hsm hfe
        go_wp2_with fail
        obtain ⟨WA, hWA⟩ : ∃ WA, WA = w3 := ⟨_, rfl⟩
        go_region_held3 (fun _ => True) (exact trivial)
          (first
            | (go_at_call 10; refine (same_true (Bytes.ext t1 ((Ext.refl _).drew)) (Bytes.ext t2 ((Ext.refl _).drew)) HSM.out).mono ?_; rintro e w4 ⟨rfl, rfl⟩)
            | (go_at_call 8; refine (awake07 _).mono ?_; rintro e w5 ⟨rfl, hE5⟩))
        go_wp2
        go_ret
        exact ⟨rfl, hE.trans (((Ext.refl w3).drew).trans hE5)⟩
      · have h3 : a < b := by omega
        clear h2
        have hfe := HFE.out
        rw [show min la lb = la by omega] at hfe
        have s1 := HS1.out la (by omega) (by omega)
        have s2 := HS2.out la (by omega) (by omega)
        rw [Int.toNat_natCast] at s1 s2
        have t1 := (HB1.out la (by omega)).ext hE3
        have t2 := (HB2.out la (by omega)).ext hE3
        have hsm : (numB a).take la ≠ (numB b).take la := by rw [ne_eq, hfe]; omega
        have hab : (a == b) = false := by simp; omega
        have HSM := Lib.hid hsm; clear hsm hfe
        go_wp2_with fail
        obtain ⟨WA, hWA⟩ : ∃ WA, WA = w3 := ⟨_, rfl⟩
        go_region_held3 (fun _ => True) (exact trivial)
          (first
            | (go_at_call 10; refine (same_false (Bytes.ext t1 ((Ext.refl _).drew)) (Bytes.ext t2 ((Ext.refl _).drew)) HSM.out).mono ?_; rintro e w4 ⟨rfl, rfl⟩)
            | (go_at_call 8; refine (awake07 _).mono ?_; rintro e w5 ⟨rfl, hE5⟩))
        go_wp2
        go_ret
        exact ⟨rfl, hE.trans (((Ext.refl w3).drew).trans hE5)⟩
    · have h3 : b < a := by omega
      by_cases hm : la ≤ lb
      · have hfe := HFE.out
        rw [show min la lb = la by omega] at hfe
        have s1 := HS1.out la (by omega) (by omega)
        have s2 := HS2.out la (by omega) (by omega)
        rw [Int.toNat_natCast] at s1 s2
        have t1 := (HB1.out la (by omega)).ext hE3
        have t2 := (HB2.out la (by omega)).ext hE3
        have hsm : (numB a).take la ≠ (numB b).take la := by rw [ne_eq, hfe]; omega
        have hab : (a == b) = false := by simp; omega
        have HSM := Lib.hid hsm; clear hsm hfe
        go_wp2_with fail
        obtain ⟨WA, hWA⟩ : ∃ WA, WA = w3 := ⟨_, rfl⟩
        go_region_held3 (fun _ => True) (exact trivial)
          (first
            | (go_at_call 10; refine (same_false (Bytes.ext t1 ((Ext.refl _).drew)) (Bytes.ext t2 ((Ext.refl _).drew)) HSM.out).mono ?_; rintro e w4 ⟨rfl, rfl⟩)
            | (go_at_call 8; refine (awake07 _).mono ?_; rintro e w5 ⟨rfl, hE5⟩))
        go_wp2
        go_ret
        exact ⟨rfl, hE.trans (((Ext.refl w3).drew).trans hE5)⟩
      · have hfe := HFE.out
        rw [show min la lb = lb by omega] at hfe
        have s1 := HS1.out lb (by omega) (by omega)
        have s2 := HS2.out lb (by omega) (by omega)
        rw [Int.toNat_natCast] at s1 s2
        have t1 := (HB1.out lb (by omega)).ext hE3
        have t2 := (HB2.out lb (by omega)).ext hE3
        have hsm : (numB a).take lb ≠ (numB b).take lb := by rw [ne_eq, hfe]; omega
        have hab : (a == b) = false := by simp; omega
        have HSM := Lib.hid hsm; clear hsm hfe
        go_wp2_with fail
        obtain ⟨WA, hWA⟩ : ∃ WA, WA = w3 := ⟨_, rfl⟩
        go_region_held3 (fun _ => True) (exact trivial)
          (first
            | (go_at_call 10; refine (same_false (Bytes.ext t1 ((Ext.refl _).drew)) (Bytes.ext t2 ((Ext.refl _).drew)) HSM.out).mono ?_; rintro e w4 ⟨rfl, rfl⟩)
            | (go_at_call 8; refine (awake07 _).mono ?_; rintro e w5 ⟨rfl, hE5⟩))
        go_wp2
        go_ret
        exact ⟨rfl, hE.trans (((Ext.refl w3).drew).trans hE5)⟩
end Go.Proofs.Ytoclheffkhdbhaa
