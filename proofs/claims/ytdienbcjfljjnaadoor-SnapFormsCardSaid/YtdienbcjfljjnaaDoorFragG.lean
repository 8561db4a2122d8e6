/- Walks: Few of law 09. -/
import Derived.Test.YtdienbcjfljjnaaDoorFrgA
import Derived.Test.YtdienbcjfljjnaaDoorPlF
open Go.RowKit Go.Shelf
namespace Go.Proofs.YtdienbcjfljjnaaDoor
open Go Go.Proofs Fm

set_option maxRecDepth 100000 in
set_option maxHeartbeats 8000000 in
theorem few09_any (l : List It) (w : World) (v : Value) (hv : itE.Row w l v) :
    Calls Tryd.prog 49 #[v] w fun e w' => e = .returned (.bool (fewF l)) ∧ Ext w w' := by
  obtain ⟨a, cap, rfl, h1, h2⟩ := hv.slice
  have HR := Lib.hid hv
  have hll : l.length ≤ 9223372036854775807 := by omega
  clear hv h1 h2
  go_enter Tryd.func49, Tryd.ntmps49
  go_wp2_with fail
  go_loopw [9] (fun i wr => ∃ j : Nat, j ≤ l.length ∧ i = .int .i64 j ∧ Hid ((l.take j).all lightI = true) ∧ Ext w wr) (fun i _ => l.length - (intOf i).toNat)
  case atStart => exact ⟨0, by omega, rfl, Lib.hid (by simp), Ext.refl _⟩
  case round =>
    obtain ⟨j, hj, rfl, HA, hE⟩ := hrel
    by_cases hlt : j < l.length
    case neg =>
      have hj' : j = l.length := by omega
      have HX : Hid (fewF l = decide ((l.length : Int) ≤ 60)) := Lib.hid (by
        have := HA.out; rw [hj', List.take_length] at this
        unfold fewF; rw [this, Bool.true_and, decide_eq_decide]; omega)
      clear hj' HA
      go_wp2
      go_ret
      exact ⟨by rw [HX.out]; rfl, hE⟩
    obtain ⟨b, off, rfl, hb, aa, m, cc, c0, c1, c2, c3, c4, c5, hs⟩ := it_at HR.out hE j hlt
    obtain ⟨x, hx⟩ : ∃ x, x = l[j] := ⟨_, rfl⟩
    rw [← hx] at c0 c1 c3 c4 c5 hs
    have HS := Lib.hid (hs.ext hE)
    have hml : m ≤ 9223372036854775807 := by have := HS.out.row.length_le; rw [← HS.out.len] at this; exact this
    have HXj := Lib.hid hx
    have HX0 : Hid (lightI x = false → fewF l = false) := Lib.hid (fun h => fewF_not hlt (by rw [← HXj.out]; exact h))
    have hsn := str_size x.name
    have hso := str_size x.over
    have HM := Lib.hid HS.out.len
    have hln : x.name.length ≤ 9223372036854775807 := by obtain ⟨_, _, _, _, _, h, _⟩ := HS.out; exact h
    have hlo : x.over.length ≤ 9223372036854775807 := by obtain ⟨_, _, _, _, _, _, h, _⟩ := HS.out; exact h
    clear hs hx hb
    generalize (x.kind.toNat : Int) = K at *
    have HE1 := Lib.hid (hE.alloc (.cells #[.string (str x.name), .int .u8 K, .slice aa m cc, .string (str x.over), .int .i64 x.width, .int .i64 x.quota] 107))
    have HB1 : Hid (BoxL (wr.alloc (.cells #[.string (str x.name), .int .u8 K, .slice aa m cc, .string (str x.over), .int .i64 x.width, .int .i64 x.quota] 107)) wr.heap.size [.string (str x.name), .int .u8 K, .slice aa m cc, .string (str x.over), .int .i64 x.width, .int .i64 x.quota]) := Lib.hid (BoxL.new wr _ _)
    have HE01 := Lib.hid ((Ext.refl wr).alloc (.cells #[.string (str x.name), .int .u8 K, .slice aa m cc, .string (str x.over), .int .i64 x.width, .int .i64 x.quota] 107))
    by_cases h40 : 40 < m
    case pos =>
      have HX := Lib.hid (HX0.out (lightI_after (by have := HM.out; omega)))
      have h40' : (40 : Int) < (m : Int) := by omega
      clear HA HX0
      go_wp2
      go_ret
      exact ⟨by rw [HX.out]; rfl, HE1.out⟩
    have h40' : ¬ (40 : Int) < (m : Int) := by omega
    by_cases hn : 100 < x.name.length
    case pos =>
      have HX := Lib.hid (HX0.out (lightI_name hn))
      have hn' : (100 : Int) < (x.name.length : Int) := by omega
      clear HA HX0
      go_wp2
      go_ret
      exact ⟨by rw [HX.out]; rfl, HE1.out⟩
    have hn' : ¬ (100 : Int) < (x.name.length : Int) := by omega
    by_cases ho : 100 < x.over.length
    case pos =>
      have HX := Lib.hid (HX0.out (lightI_over ho))
      have ho' : (100 : Int) < (x.over.length : Int) := by omega
      clear HA HX0
      go_wp2
      go_ret
      exact ⟨by rw [HX.out]; rfl, HE1.out⟩
    have ho' : ¬ (100 : Int) < (x.over.length : Int) := by omega
    have HL : Hid (x.after.all (fun s => decide (s.length ≤ 100)) = true → lightI x = true) := Lib.hid (fun h => lightI_mk (by have := HM.out; omega) (by omega) (by omega) h)
    have HRx := Lib.hid (HS.out.row.ext HE01.out)
    clear h40 hn ho
    go_wp2_with fail
    have hwz : wr.heap.size < (wr.alloc (.cells #[.string (str x.name), .int .u8 K, .slice aa m cc, .string (str x.over), .int .i64 x.width, .int .i64 x.quota] 107)).heap.size := by simp
    generalize wr.alloc (.cells #[.string (str x.name), .int .u8 K, .slice aa m cc, .string (str x.over), .int .i64 x.width, .int .i64 x.quota] 107) = W1 at *
    clear c0 c1 c2 c3 c4 c5
    go_loopw [32] (fun i wr2 => ∃ k : Nat, k ≤ m ∧ i = .int .i64 k ∧ Hid ((x.after.take k).all (fun s => decide (s.length ≤ 100)) = true) ∧ Ext W1 wr2) (fun i _ => m - (intOf i).toNat)
    case atStart => exact ⟨0, by omega, rfl, Lib.hid (by simp), Ext.refl _⟩
    case round =>
      obtain ⟨k, hk, rfl, HA2, hE2⟩ := hrel
      by_cases hkm : k < m
      · have hkx : k < x.after.length := by have := HM.out; omega
        obtain ⟨sb, so, rfl, hsb, hsc, hsl⟩ := str_at HRx.out hE2 k hkx
        have hss := str_size x.after[k]
        by_cases h100 : 100 < x.after[k].length
        case pos =>
          have HX := Lib.hid (HX0.out (lightI_text hkx h100))
          have h100' : (100 : Int) < (x.after[k].length : Int) := by omega
          clear h100
          go_wp2
          go_ret
          exact ⟨by rw [HX.out]; rfl, HE1.out.trans hE2⟩
        case neg =>
          have HA3 : Hid ((x.after.take (k + 1)).all (fun s => decide (s.length ≤ 100)) = true) := Lib.hid (by
            rw [List.take_add_one, List.getElem?_eq_getElem hkx, List.all_append, HA2.out]; simp; omega)
          have h100' : ¬ (100 : Int) < (x.after[k].length : Int) := by omega
          clear h100
          go_wp2
          go_roundw
          case rel => exact ⟨k + 1, by omega, by go_num, HA3, hE2⟩
          case measure => simp [intOf]; omega
      · have hkk : k = m := by omega
        have HXY : Hid ((l.take (j + 1)).all lightI = true) := Lib.hid (by
          rw [List.take_add_one, List.getElem?_eq_getElem hlt, List.all_append, HA.out]
          have := HA2.out
          rw [hkk, show m = x.after.length from HM.out, List.take_length] at this
          have := HL.out this
          rw [HXj.out] at this
          simpa using this)
        have HEr := Lib.hid (HE1.out.trans hE2)
        clear hkk
        go_wp2
        go_roundw
        case rel => exact ⟨j + 1, by omega, by go_num, HXY, HEr.out⟩
        case measure => simp [intOf]; omega
end Go.Proofs.YtdienbcjfljjnaaDoor
