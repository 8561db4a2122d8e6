/- Walks: Right, Bytes. -/
import Derived.Test.YtnbalamacpcanaaDoorValH
import Derived.Test.YtnbalamacpcanaaDoorTreeG
open Go.RowKit Go.Shelf
namespace Go.Proofs.YtnbalamacpcanaaDoor
open Go Go.Proofs Fm

set_option maxRecDepth 100000 in
set_option maxHeartbeats 4000000 in
theorem vright_any (t : Tr) (w : World) (v : Value) (h : Lies w t v) :
    Calls Tryd.prog 19 #[v] w fun e w' => e = .returned (.bool (rightT t)) ∧ Ext w w' := by
  have HL := Lib.hid h
  have HR : Hid (∀ b : Bool, (b = true ↔ kindsT t = true ∧ deepT t ≤ 6 ∧ (partsT t : Int) ≤ 200) → rightT t = b) := Lib.hid (fun b hb => by
    rw [rightT, Bool.eq_iff_iff, hb]
    simp only [Bool.and_eq_true, decide_eq_true_eq, and_assoc]
    exact and_congr Iff.rfl (and_congr Iff.rfl ⟨fun h => by omega, fun h => by omega⟩))
  cases t with
  | node k n s l =>
  obtain ⟨dd, rfl, -, -, a, cap, rfl, -⟩ := h.parts
  clear h
  go_enter Tryd.func19, Tryd.ntmps19
  go_wp2_with fail
  have hE0 := (Ext.refl w).alloc (.cells #[.int .u8 (k.toNat : Int), .int .i64 n, .string (str s), .slice a l.length cap] 24)
  have hz : (w.alloc (.cells #[.int .u8 (k.toNat : Int), .int .i64 n, .string (str s), .slice a l.length cap] 24)).heap.size = w.heap.size + 1 := by simp
  generalize w.alloc (.cells #[.int .u8 (k.toNat : Int), .int .i64 n, .string (str s), .slice a l.length cap] 24) = W1 at *
  have hr : RoomAt w (W1.alloc (.cells #[.int .i64 200] 100)) W1.heap.size 200 := ⟨hE0.alloc _, hE0.size, by simp, by simp, by simp⟩
  rw [hz] at hr
  refine (fits_any (.node k n s l) w _ (w.heap.size + 1) 200 6 6 _ (Lib.hid rfl) HL.out hr (by omega) (by omega) (by omega)).mono ?_
  rintro e w2 ⟨b, left', rfl, hb, -, -, -, r2, -⟩
  have HX := Lib.hid (HR.out b hb)
  have hE2 := r2.ext
  clear r2 hb hr
  go_wp2
  go_ret
  exact ⟨by rw [HX.out]; rfl, hE2⟩

/-- The bytes that value.Bytes hands back. -/
def VBytes (w : World) (t : Tr) (e : Ending) (w' : World) : Prop :=
  if rightT t = true then ∃ v, e = .returned (.tuple #[v, .int .i64 0]) ∧ OwnBytes w w' v (bytesT t)
  else e = .returned (.tuple #[.slice none 0 0, .int .i64 2]) ∧ Ext w w'

set_option maxRecDepth 100000 in
set_option maxHeartbeats 4000000 in
theorem vbytes_any (t : Tr) (w : World) (v : Value) (h : Lies w t v) :
    Calls Tryd.prog 17 #[v] w (VBytes w t) := by
  have HL := Lib.hid h
  cases t with
  | node k n s l =>
  obtain ⟨dd, rfl, -, -, a, cap, rfl, -⟩ := h.parts
  clear h
  have hE0 := (Ext.refl w).alloc (.cells #[.int .u8 (k.toNat : Int), .int .i64 n, .string (str s), .slice a l.length cap] 24)
  have hm := alloc4 w (.int .u8 (k.toNat : Int)) (.int .i64 n) (.string (str s)) (.slice a l.length cap) 24
  go_enter Tryd.func17, Tryd.ntmps17
  go_wp2_with fail
  generalize w.alloc (.cells #[.int .u8 (k.toNat : Int), .int .i64 n, .string (str s), .slice a l.length cap] 24) = W1 at *
  refine (vright_any _ _ _ (HL.out.ext hE0)).mono ?_
  rintro e w1 ⟨rfl, hE1⟩
  obtain ⟨m0, m1, m2, m3, hsz⟩ := hm
  have hE2 := hE0.trans hE1
  have q0 := (hE1.cell (p := ⟨w.heap.size, 0, none⟩) hsz).trans m0
  have q1 := (hE1.cell (p := ⟨w.heap.size, 1, none⟩) hsz).trans m1
  have q2 := (hE1.cell (p := ⟨w.heap.size, 2, none⟩) hsz).trans m2
  have q3 := (hE1.cell (p := ⟨w.heap.size, 3, none⟩) hsz).trans m3
  clear m0 m1 m2 m3 hsz hE1 hE0
  cases hr : rightT (.node k n s l) with
  | true =>
    have HR := Lib.hid hr; clear hr
    have hb := right_bytes HR.out
    go_wp2_with fail
    refine (put_any _ _ _ _ [] (Bytes.nil _) (HL.out.ext hE2) (by simp; omega)).mono ?_
    rintro e w2 ⟨v2, rfl, o2⟩
    rw [List.nil_append] at o2
    have hO : OwnBytes w w2 v2 (bytesT (.node k n s l)) := ⟨o2.own.mono hE2.size, hE2.trans o2.2⟩
    have HO := Lib.hid hO
    clear hO o2 q0 q1 q2 q3
    go_wp2
    go_ret2
    unfold VBytes
    rw [HR.out, if_pos rfl]
    exact ⟨_, rfl, HO.out⟩
  | false =>
    have HR := Lib.hid hr; clear hr
    go_wp2
    go_ret2
    unfold VBytes
    rw [HR.out, if_neg (by simp)]
    exact ⟨rfl, hE2⟩
end Go.Proofs.YtnbalamacpcanaaDoor
