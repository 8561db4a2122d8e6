/- Walks: show, of a number and of a text. -/
import Derived.Test.YtnbalamacpcanaaDoorShowA
import Derived.Test.YtnbalamacpcanaaDoorTreeS
import Derived.Lib.ConvBytes
import Derived.Laws.BitsLemmas
open Go.RowKit Go.Shelf
namespace Go.Proofs.YtnbalamacpcanaaDoor
open Go Go.Proofs Fm

/-- The table that FormatInt reads is as the program's text lays it. -/
def Tab (w : World) : Prop := Lib.TabIs Tryd.prog w "internal/strconv.uint64pow10" .u64 Lib.pow10Tab
theorem Tab.ext {w w' : World} (h : Tab w) (hE : Ext w w') : Tab w' := by
  have hg : Tryd.prog.globalNamed "internal/strconv.uint64pow10" = some 0 := by kernel_rfl
  unfold Tab Lib.TabIs World.var? at *
  rw [hg] at h ⊢
  simp only [Option.bind_some] at h ⊢
  have hlt : 0 < w.heap.size := by
    rcases Nat.lt_or_ge 0 w.heap.size with h' | h'
    · exact h'
    · rw [Array.getElem?_eq_none h'] at h; cases h
  rw [hE.block _ hlt]
  exact h
theorem ext_grow (w : World) (os : Array Obj) : Ext w (Go.Sort.grow w os) :=
  ⟨rfl, rfl, rfl, by simp [Go.Sort.grow], fun i hi => by simp [Go.Sort.grow, Array.getElem?_append_left hi]⟩
theorem formatInt_any {n : Int} (h : isI64 n) {w : World} (ht : Tab w) :
    Calls Tryd.prog 115 #[.int .i64 n, .int .i64 10] w fun e w' => e = .returned (.string (str (Lib.itoa n))) ∧ Ext w w' :=
  (Tryd.strconv_FormatInt_10 n h.1 h.2 w ht).mono fun e w' ⟨h1, k, os, h2⟩ => ⟨h1, by rw [h2]; exact ((Ext.refl w).drewN k).trans (ext_grow _ os)⟩

theorem Bld.buf {B b : Nat} {xs : List UInt8} {w : World} (h : Bld B b xs w) : ∀ k, bufAt w b = some k → B ≤ k ∧ k < w.heap.size := by
  intro k hk
  unfold bufAt at hk
  rcases h with h | h
  · obtain ⟨_, v, hb, ho, _⟩ := h
    rw [hb] at hk; exact ho.lt k hk
  · obtain ⟨_, v, hb, ho, _⟩ := h
    rw [hb] at hk; exact ho.lt k hk
theorem Bld.apart {B b : Nat} {xs : List UInt8} {w : World} (h : Bld B b xs w) (o : Obj) : Apart (w.alloc o) b w.heap.size := by
  have hlt := h.lt.2
  refine ⟨by simp, by omega, fun e => ?_⟩
  rw [bufAt_ext ((Ext.refl w).alloc o) hlt] at e
  have := (h.buf _ e).2
  omega
theorem WrotePost.of {B b : Nat} {xs : List UInt8} {w w1 : World} {r : Value} {e : Ending} {w' : World} (h : WrotePost B b xs w1 r e w') (hE : Ext w w1) (hB : B ≤ w.heap.size) (hb : b < w.heap.size) : WrotePost B b xs w r e w' :=
  ⟨h.1, h.2.1, ((Below.refl B w).trans (hE.mono hB)).trans h.2.2.1, (Keep.of_ext hE hb).trans h.2.2.2⟩

set_option maxRecDepth 100000 in
set_option maxHeartbeats 2000000 in
theorem show_num {w0 w : World} {B b : Nat} {xs : List UInt8} (hE : Ext w0 w) (hB : B ≤ w.heap.size) (hT : Tab w0) (hb : Bld B b xs w) (n : Int) (hn : isI64 n) (s : ByteArray) (a : Option Addr) (m c : Nat) (hx : xs.length ≤ 1000000000) :
    Calls Tryd.prog 71 #[.pointer (some ⟨b, 0, none⟩), .agg #[.int .u8 0, .int .i64 n, .string s, .slice a m c]] w (WrotePost B b (xs ++ Lib.itoa n) w (.tuple #[])) := by
  have HN := Lib.hid hn
  have HT := Lib.hid (hT.ext hE)
  have HB := Lib.hid hb
  have hlt := hb.lt.2
  clear hn hT hb
  go_enter Tryd.func71, Tryd.ntmps71
  go_wp2_with fail
  have hE1 := (Ext.refl w).alloc (.cells #[.int .u8 0, .int .i64 n, .string s, .slice a m c] 24)
  refine (formatInt_any HN.out (HT.out.ext hE1)).mono ?_
  rintro e w2 ⟨rfl, hE2⟩
  have hE3 := hE1.trans hE2
  have hb2 := HB.out.ext hE3
  have hB2 : B ≤ w2.heap.size := Nat.le_trans hB hE3.size
  have hil := itoa_le HN.out
  clear hE1 hE2
  go_wp2_with fail
  refine (wstring_any hb2 _ (by omega) (by omega) hB2).mono ?_
  intro e w3 hw
  have hw2 := hw.of hE3 hB hlt
  obtain ⟨rfl, _, _, _⟩ := hw
  have HW := Lib.hid hw2.2
  clear hw2 hb2 hE3 hB2 hil
  go_wp2
  go_end0
  exact ⟨rfl, HW.out⟩

theorem wbyte_lit {B b : Nat} {xs : List UInt8} {w : World} (h : Bld B b xs w) (c : UInt8) (n : Int) (hc : (c.toNat : Int) = n) (hl : xs.length ≤ 1000000000000) (hB : B ≤ w.heap.size) :
    Calls Tryd.prog 116 #[.pointer (some ⟨b, 0, none⟩), .int .u8 n] w (WrotePost B b (xs ++ [c]) w .nilIface) := by
  subst hc; exact wbyte_any h c hl hB
theorem conv_facts (w : World) (s : List UInt8) : Ext w (Lib.bytesWorld w 5 (str s)) ∧ (∀ j, j < s.length → (Lib.bytesWorld w 5 (str s)).cell? ⟨w.heap.size, j, none⟩ = some (bv (s[j]?.getD 0))) ∧ (Lib.bytesWorld w 5 (str s)).heap.size = w.heap.size + 1 := by
  refine ⟨⟨rfl, rfl, rfl, by rw [Lib.bytesWorld_size]; omega, fun j hj => Lib.bytesWorld_at_old w _ _ j hj⟩, fun j hj => ?_, Lib.bytesWorld_size _ _ _⟩
  rw [Lib.bytesWorld_cell w _ _ j (by rw [str_size]; exact hj)]
  have : (str s).data.toList = s := by simp [str]
  rw [this]
  simp [bv, List.getD]

theorem hex_index : ∀ (n : Nat), n < 16 → ∀ w : World, (Instr.index 9 (.string { data := #[48, 49, 50, 51, 52, 53, 54, 55, 56, 57, 65, 66, 67, 68, 69, 70] }) (.int .u8 (n : Int))).run Tryd.prog w = .ok (.int .u8 ((hexd n).toNat : Int)) w
  | 0, _ => fun _ => by kernel_rfl
  | 1, _ => fun _ => by kernel_rfl
  | 2, _ => fun _ => by kernel_rfl
  | 3, _ => fun _ => by kernel_rfl
  | 4, _ => fun _ => by kernel_rfl
  | 5, _ => fun _ => by kernel_rfl
  | 6, _ => fun _ => by kernel_rfl
  | 7, _ => fun _ => by kernel_rfl
  | 8, _ => fun _ => by kernel_rfl
  | 9, _ => fun _ => by kernel_rfl
  | 10, _ => fun _ => by kernel_rfl
  | 11, _ => fun _ => by kernel_rfl
  | 12, _ => fun _ => by kernel_rfl
  | 13, _ => fun _ => by kernel_rfl
  | 14, _ => fun _ => by kernel_rfl
  | 15, _ => fun _ => by kernel_rfl
  | n + 16, h => by omega

set_option maxRecDepth 100000 in
set_option maxHeartbeats 4000000 in
theorem show_text {w : World} {B b : Nat} {xs : List UInt8} (hB : B ≤ w.heap.size) (hb : Bld B b xs w) (n : Int) (s : List UInt8) (a : Option Addr) (m c : Nat) (hx : xs.length ≤ 1000000000) (hs : s.length ≤ 1000000000) :
    Calls Tryd.prog 71 #[.pointer (some ⟨b, 0, none⟩), .agg #[.int .u8 1, .int .i64 n, .string (str s), .slice a m c]] w (WrotePost B b (xs ++ 34 :: (escB s ++ [34])) w (.tuple #[])) := by
  have HB := Lib.hid hb
  have hlt := hb.lt.2
  have hsz := str_size s
  clear hb
  go_enter Tryd.func71, Tryd.ntmps71
  go_wp2_with fail
  have hE1 := (Ext.refl w).alloc (.cells #[.int .u8 1, .int .i64 n, .string (str s), .slice a m c] 24)
  have hb1 := Box4.new w (.int .u8 1) (.int .i64 n) (.string (str s)) (.slice a m c)
  have hap := HB.out.apart (.cells #[.int .u8 1, .int .i64 n, .string (str s), .slice a m c] 24)
  refine (wbyte_lit (HB.out.ext hE1) 34 34 rfl (by omega) (Nat.le_trans hB hE1.size)).mono ?_
  intro e w2 hw
  have hb2 := hap.box hw.2.2.2 hb1
  have hw2 := hw.of hE1 hB hlt
  obtain ⟨rfl, _, _, _⟩ := hw
  obtain ⟨-, hu2, hB2, hK2⟩ := hw2
  obtain ⟨p0, p1, p2, p3⟩ := hb2.cells
  have hcv := Lib.run_convert_string_bytes (P := Tryd.prog) w2 9 25 5 (str s) Tryd.underlying9 Tryd.underlying25 Tryd.underlying5
  have hle2 : B ≤ w2.heap.size := Nat.le_trans hB hB2.size
  obtain ⟨hE3, hc3, hz3⟩ := conv_facts w2 s
  have hap3 : Apart (Lib.bytesWorld w2 5 (str s)) b w2.heap.size := by
    refine ⟨by omega, by have := hu2.lt.2; omega, fun e => ?_⟩
    rw [bufAt_ext hE3 hu2.lt.2] at e
    have := (hu2.buf _ e).2
    omega
  have hu3 := hu2.ext hE3
  have hB3 := hB2.trans (hE3.mono hle2)
  have hK3 := hK2.trans (Keep.of_ext hE3 hu2.lt.2)
  have HC3 := Lib.hid hc3
  have HA3 := Lib.hid hap3
  have hll : s.length ≤ 9223372036854775807 := by omega
  clear hE1 hb1 hap hb2 hu2 hB2 hK2 hE3 hc3 hap3 hz3
  go_wp2_with fail
  generalize Lib.bytesWorld w2 5 (str s) = W3 at *
  generalize w2.heap.size = Y at *
  generalize grownCap w2 s.length 0 5 = cp at *
  go_loopw [45] (fun i wr => ∃ j : Nat, j ≤ s.length ∧ i = .int .i64 j ∧ Hid (BldU B b (xs ++ 34 :: escB (s.take j)) wr) ∧ Below B w wr ∧ Hid (Keep b w wr) ∧ Hid (Keep b W3 wr)) (fun i _ => s.length - (intOf i).toNat)
  case atStart => exact ⟨0, by omega, rfl, Lib.hid hu3, hB3, Lib.hid hK3, Lib.hid (Keep.refl _ _)⟩
  case round =>
    obtain ⟨j, hj, rfl, HU, hBw, HK, HK3⟩ := hrel
    clear hu3 hB3 hK3 p0 p1 p2 p3 hcv
    have hBr : B ≤ wr.heap.size := Nat.le_trans hB hBw.size
    by_cases hlt : j < s.length
    · have hcell : wr.cell? ⟨Y, j, none⟩ = some (.int .u8 (s[j].toNat : Int)) := by
        have h1 := (HK3.out _ HA3.out).1
        have h2 : wr.cell? ⟨Y, j, none⟩ = W3.cell? ⟨Y, j, none⟩ := World.cell?_of_block h1
        rw [h2, HC3.out j hlt]
        simp [bv, hlt]
      have hat := escB_at s j hlt
      have hlen : (escB (s.take j)).length ≤ 3 * s.length := by have := escB_le (s.take j); rw [List.length_take] at this; omega
      generalize s[j] = ch at *
      have hc255 := ch.toNat_lt
      generalize hKc : (ch.toNat : Int) = K at *
      have hK0 : 0 ≤ K := by omega
      have hK255 : K ≤ 255 := by omega
      have hj0 : (0 : Int) ≤ (j : Int) := by omega
      have hj1 : (j : Int) < (s.length : Int) := by omega
      by_cases hp : plainC ch = true
      · have hp' := hp
        simp only [plainC, decide_eq_true_eq] at hp'
        have g1 : 32 < K := by omega
        have g2 : K ≤ 126 := by omega
        have g3 : (K != 34) = true := by simp; omega
        have g4 : (K != 37) = true := by simp; omega
        have hesc : escC ch = [ch] := by unfold escC; rw [if_pos hp]
        have HAT : Hid (xs ++ 34 :: escB (s.take (j + 1)) = (xs ++ 34 :: escB (s.take j)) ++ [ch]) := Lib.hid (by rw [hat, hesc]; simp)
        have HKc := Lib.hid hKc
        clear hp hp' hat hesc hKc
        go_wp2_with fail
        refine (wbyte_lit HU.out.bld ch K HKc.out (by simp; omega) hBr).mono ?_
        rintro e w4 ⟨rfl, hu4, hB4, hK4⟩
        have HU4 : Hid (BldU B b (xs ++ 34 :: escB (s.take (j + 1))) w4) := Lib.hid (by rw [HAT.out]; exact hu4)
        have hB5 := hBw.trans hB4
        have HK5 := Lib.hid (HK.out.trans hK4)
        have HK6 := Lib.hid (HK3.out.trans hK4)
        clear hu4 hB4 hK4 hBw HK HK3 HU HAT hBr
        go_wp2
        go_roundw
        case rel => exact ⟨j + 1, by omega, by go_num, HU4, hB5, HK5, HK6⟩
        case measure => simp [intOf]; omega
      · have hesc : escC ch = [37, hexd (ch.toNat / 16), hexd (ch.toNat % 16)] := by unfold escC; rw [if_neg hp]
        have HAT : Hid (xs ++ 34 :: escB (s.take (j + 1)) = (xs ++ 34 :: escB (s.take j)) ++ [37, hexd (ch.toNat / 16), hexd (ch.toNat % 16)]) := Lib.hid (by rw [hat, hesc]; simp)
        simp only [plainC, decide_eq_true_eq] at hp
        have x1 : ∀ wx : World, (Instr.index 9 (.string { data := #[48, 49, 50, 51, 52, 53, 54, 55, 56, 57, 65, 66, 67, 68, 69, 70] }) (.int .u8 (K / 16))).run Tryd.prog wx = .ok (.int .u8 ((hexd (ch.toNat / 16)).toNat : Int)) wx := fun wx => by
          have h := hex_index (ch.toNat / 16) (by omega) wx
          rw [show ((ch.toNat / 16 : Nat) : Int) = K / 16 by omega] at h
          exact h
        have x2 : ∀ wx : World, (Instr.index 9 (.string { data := #[48, 49, 50, 51, 52, 53, 54, 55, 56, 57, 65, 66, 67, 68, 69, 70] }) (.int .u8 (K % 16))).run Tryd.prog wx = .ok (.int .u8 ((hexd (ch.toNat % 16)).toNat : Int)) wx := fun wx => by
          have h := hex_index (ch.toNat % 16) (by omega) wx
          rw [show ((ch.toNat % 16 : Nat) : Int) = K % 16 by omega] at h
          exact h
        generalize hexd (ch.toNat / 16) = y1 at *
        generalize hexd (ch.toNat % 16) = y2 at *
        have hband : bits BinOp.and IntKind.u8 K 15 = K % 16 := u8_and15 K hK0 (by omega)
        have hcase : K ≤ 32 ∨ (32 < K ∧ 126 < K) ∨ (32 < K ∧ K ≤ 126 ∧ (K != 34) = false) ∨ (32 < K ∧ K ≤ 126 ∧ (K != 34) = true ∧ (K != 37) = false) := by
          by_cases q1 : K ≤ 32
          · exact .inl q1
          by_cases q2 : 126 < K
          · exact .inr (.inl ⟨by omega, q2⟩)
          by_cases q3 : K = 34
          · exact .inr (.inr (.inl ⟨by omega, by omega, by simp [q3]⟩))
          · have q4 : K = 37 := by omega
            exact .inr (.inr (.inr ⟨by omega, by omega, by simpa using q3, by simp [q4]⟩))
        have hlx : (xs ++ 34 :: escB (s.take j)).length ≤ 1000000000000 := by simp; omega
        clear hat hesc hp hKc
        rcases hcase with g1 | ⟨g1, g2⟩ | ⟨g1, g2, g3⟩ | ⟨g1, g2, g3, g4⟩
        all_goals
          go_wp2_with fail
          go_region_held3 (fun _ => True) (exact trivial) ((
            go_at_call 117
            refine (wbytes_any (HU.out.ext ?_) _ [37, y1, y2] ?_ hlx (by simp) ?_).mono ?_
            · exact ((Ext.refl wr).alloc _).drew
            · exact (bytes_new wr _ _ _ _ [37, y1, y2] rfl rfl rfl (by simp [maxLen])).ext (Ext.refl _).drew
            · exact Nat.le_trans hBr ((Ext.refl wr).alloc _).drew.size
            rintro e w4 ⟨rfl, hu4, hB4, hK4⟩))
          all_goals
            have hEx : Ext wr (wr.alloc (.cells #[.int .u8 37, .int .u8 (y1.toNat : Int), .int .u8 (y2.toNat : Int)] 5)).drew := ((Ext.refl wr).alloc _).drew
            have HU4 : Hid (BldU B b (xs ++ 34 :: escB (s.take (j + 1))) w4) := Lib.hid (by rw [HAT.out]; exact hu4)
            have hB5 := hBw.trans ((hEx.mono hBr).trans hB4)
            have HK5 := Lib.hid (HK.out.trans ((Keep.of_ext hEx HU.out.lt.2).trans hK4))
            have HK6 := Lib.hid (HK3.out.trans ((Keep.of_ext hEx HU.out.lt.2).trans hK4))
            clear hu4 hB4 hK4 hBw HK HK3 HU HAT hBr x1 x2 hband hEx
            go_wp2
            go_roundw
            case rel => exact ⟨j + 1, by omega, by go_num, HU4, hB5, HK5, HK6⟩
            case measure => simp [intOf]; omega
    · obtain rfl : j = s.length := by omega
      have hU := HU.out
      rw [List.take_length] at hU
      have hel := escB_le s
      go_wp2_with fail
      refine (wbyte_lit hU.bld 34 34 rfl (by simp; omega) hBr).mono ?_
      rintro e w4 ⟨rfl, hu4, hB4, hK4⟩
      have HX : Hid (WrotePost B b (xs ++ 34 :: (escB s ++ [34])) w (.tuple #[]) (.returned (.tuple #[])) w4) := Lib.hid ⟨rfl, by simpa using hu4, hBw.trans hB4, HK.out.trans hK4⟩
      clear hu4 hB4 hK4 hBw HK HK3 HU hU hBr
      go_wp2
      go_end0
      exact HX.out
end Go.Proofs.YtnbalamacpcanaaDoor
