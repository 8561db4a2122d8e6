/- The reference's digits. -/
import Derived.Test.YtnbalamacpcanaaDoorWireR
import Derived.Test.YtnbalamacpcanaaDoorTreeS
open Go.RowKit Go.Shelf
namespace Go.Proofs.YtnbalamacpcanaaDoor
open Go Go.Proofs Fm

theorem bytes_one (w : World) {x : UInt8} {z : Int} (hz : (x.toNat : Int) = z) : Bytes (w.alloc (.cells #[.int .u8 z] 5)) (.slice (some ⟨w.heap.size, 0, none⟩) 1 1) [x] := by
  refine Bytes.mk rfl (by simp) (by unfold maxLen; omega) (by simp) (fun j hj => ?_)
  obtain rfl : j = 0 := by simpa using hj
  have h := heap_alloc_new w (.cells #[.int .u8 z] 5)
  have e : (w.alloc (.cells #[.int .u8 z] 5)).cell? ⟨w.heap.size, 0 + 0, none⟩ = some (.int .u8 z) := by
    simp only [World.cell?]
    rw [h]; rfl
  rw [e]; simp [bv, hz]
theorem conv_one (w : World) {x : UInt8} {z : Int} (hz : (x.toNat : Int) = z) :
    (convert 25 9 (.slice (some ⟨w.heap.size, 0, none⟩) 1 1)).run Tryd.prog (w.alloc (.cells #[.int .u8 z] 5)) = .ok (.string (str [x])) (w.alloc (.cells #[.int .u8 z] 5)) :=
  conv_bytes (P := Tryd.prog) (src := 25) (dst := 9) (e := 5) Tryd.underlying25 Tryd.underlying5 Tryd.underlying9 (bytes_one w hz)

set_option maxHeartbeats 1000000 in
theorem rdigit_any (n : Nat) (hn : n < 16) (w : World) :
    Calls Tryd.prog 74 #[.int .u8 (n : Int)] w fun e w' => e = .returned (.string (str [hexd n])) ∧ Ext w w' := by
  have hE := fun z : Int => (Ext.refl w).alloc (.cells #[.int .u8 z] 5)
  have HE : Hid (∀ z : Int, Ext w (w.alloc (.cells #[.int .u8 z] 5))) := Lib.hid hE
  clear hE
  have hlt : (n : Int) < 16 := by omega
  have h0 : (0 : Int) ≤ (n : Int) := by omega
  by_cases h : n < 10
  · have hx : ((hexd n).toNat : Int) = 48 + (n : Int) := by
      unfold hexd; rw [if_pos h, UInt8.toNat_ofNat']; omega
    have hc := conv_one w hx
    have h10 : (n : Int) < 10 := by omega
    have hw : IntKind.u8.wrap (48 + (n : Int)) = 48 + (n : Int) := IntWalk.u8_in _ (by omega)
    clear hx
    go_enter Tryd.func74, Tryd.ntmps74
    go_wp2
    go_ret
    exact ⟨rfl, HE.out _⟩
  · have hx : ((hexd n).toNat : Int) = 65 + (n : Int) - 10 := by
      unfold hexd; rw [if_neg h, UInt8.toNat_ofNat']; omega
    have hc := conv_one w hx
    have h10 : ¬ (n : Int) < 10 := by omega
    have hw : IntKind.u8.wrap (65 + (n : Int)) = 65 + (n : Int) := IntWalk.u8_in _ (by omega)
    have hw2 : IntKind.u8.wrap (65 + (n : Int) - 10) = 65 + (n : Int) - 10 := IntWalk.u8_in _ (by omega)
    clear hx
    go_enter Tryd.func74, Tryd.ntmps74
    go_wp2
    go_ret
    exact ⟨rfl, HE.out _⟩

theorem decDigits_le20 {u : Nat} (h : u < 18446744073709551616) : (Lib.decDigits u).length ≤ 20 :=
  decDigits_le 19 u (by have : (10 : Nat) ^ 20 = 100000000000000000000 := by decide
                        omega)

set_option maxHeartbeats 1000000 in
theorem rdigits_any : ∀ (u : Nat) (w : World), u < 18446744073709551616 →
    Calls Tryd.prog 73 #[.int .u64 (u : Int)] w fun e w' => e = .returned (.string (str (Lib.decDigits u))) ∧ Ext w w' := by
  intro u
  induction u using Nat.strongRecOn with
  | _ u ih =>
  intro w hu
  have h0 : (0 : Int) ≤ (u : Int) := by omega
  have hub : (u : Int) ≤ 18446744073709551615 := by omega
  by_cases h : u < 10
  · have h10 : (u : Int) < 10 := by omega
    have HD := Lib.hid (show Lib.decDigits u = [hexd u] by rw [Lib.decDigits, dif_pos h]; unfold hexd; rw [if_pos h])
    have hw : IntKind.u8.wrap (u : Int) = (u : Int) := IntWalk.u8_in _ (by omega)
    have hu16 : u < 16 := by omega
    clear ih
    go_enter Tryd.func73, Tryd.ntmps73
    go_wp2_with fail
    refine (rdigit_any u hu16 w).mono ?_
    rintro e w1 ⟨rfl, hE⟩
    go_wp2
    go_ret
    exact ⟨by rw [HD.out]; rfl, hE⟩
  · have h10 : ¬ (u : Int) < 10 := by omega
    obtain ⟨q, hq⟩ : ∃ q, q = u / 10 := ⟨_, rfl⟩
    obtain ⟨r, hr⟩ : ∃ r, r = u % 10 := ⟨_, rfl⟩
    have HD := Lib.hid (show Lib.decDigits u = Lib.decDigits q ++ [hexd r] by
      rw [Lib.decDigits, dif_neg h, hq, hr]; unfold hexd; rw [if_pos (by omega)])
    have hd : IntKind.u64.wrap ((u : Int).tdiv 10) = (q : Int) := by rw [Int.tdiv_eq_ediv_of_nonneg h0, IntWalk.u64_in _ (by omega)]; omega
    have hm : IntKind.u64.wrap ((u : Int).tmod 10) = (r : Int) := by rw [Int.tmod_eq_emod_of_nonneg h0, IntWalk.u64_in _ (by omega)]; omega
    have hd2 : (u : Int) / 10 = (q : Int) := by omega
    have hm2 : (u : Int) % 10 = (r : Int) := by omega
    have hw : IntKind.u8.wrap (r : Int) = (r : Int) := IntWalk.u8_in _ (by omega)
    have hl := decDigits_le20 (u := q) (by omega)
    have hsa := fun w' => str_add (P := Tryd.prog) (Lib.decDigits q) [hexd r] (by simp; omega) w'
    have IH := Lib.hid (ih q (by omega))
    have hq64 : q < 18446744073709551616 := by omega
    have hr16 : r < 16 := by omega
    clear ih hq hr
    go_enter Tryd.func73, Tryd.ntmps73
    go_wp2_with fail
    refine (IH.out w hq64).mono ?_
    rintro e w1 ⟨rfl, hE1⟩
    go_wp2_with fail
    refine (rdigit_any r hr16 w1).mono ?_
    rintro e w2 ⟨rfl, hE2⟩
    go_wp2
    go_ret
    exact ⟨by rw [HD.out]; rfl, hE1.trans hE2⟩
end Go.Proofs.YtnbalamacpcanaaDoor
