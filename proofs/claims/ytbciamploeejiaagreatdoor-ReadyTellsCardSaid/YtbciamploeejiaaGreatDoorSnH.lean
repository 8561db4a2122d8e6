/- Walks: slices.IndexFunc, ContainsFunc at []snap.field, []int and []api.Node, over any closure. -/
import Derived.Test.YtbciamploeejiaaGreatDoorPlWb
import Derived.Test.YtbciamploeejiaaGreatDoorPlQ
import Derived.Test.YtbciamploeejiaaGreatDoorPlO
import Derived.Maps.OwnSet
import Derived.Maps.OwnOps
import Derived.Maps.Views
import Derived.StringKeys
import Derived.Test.YtbciamploeejiaaGreatDoorProg
import Derived.Test.YtbciamploeejiaaGreatDoorIdC
import Derived.Test.YtbciamploeejiaaGreatDoorTake
import Derived.Carry
import Derived.Deep.RegionLaw
import Derived.Deep.RegionHeld3
import Derived.BigRegion
import Derived.Deep.Cut
import Derived.ProofKit
import Derived.OpenShut
import Derived.ShutString
import Derived.ChangeOld
import Derived.BigQuiet
import Derived.Laws.EntriesVeiled
import Derived.Deep.QuietTactic
import Derived.Shelf.Sort.Plain
import Derived.Shelf.Slices.In.SortNone
import Derived.Shelf.Slices.CompactI
import Derived.Shelf.Slices.Turned
import Derived.Shelf.SlicesE.Clone
import Derived.Shelf.SlicesE.DeleteFunc
import Derived.Lib.OwnBridge
open Go.RowKit Go.Shelf
namespace Go.Proofs.YtbciamploeejiaaGreatDoor
open Go Go.Proofs Fm

/-- Between two rounds. -/
def RRd (s : List UInt8) (w : World) (fl : Int) (i : Nat) (wr : World) : Prop :=
  ∃ (l : List Stp) (a : Option Addr) (c : Nat), i ≤ s.length + 1 ∧ l.length ≤ i ∧ RdOk s i l ∧ Ext w wr ∧ BoxL wr w.heap.size [.int .i64 0, .slice none 0 0] ∧ BoxL wr (w.heap.size + 1) [.int .i64 fl, .slice a l.length c] ∧ OwnSt 79 (w.heap.size + 2) wr (.slice a l.length c) l
theorem nm_z {x : UInt8} {z : Int} (h : (x.toNat : Int) = z) : nmC x = (!(z == 47) && !(z == 91)) := by
  have e : ∀ c : UInt8, (x == c) = (z == (c.toNat : Int)) := by
    intro c
    rw [Bool.eq_iff_iff, beq_iff_eq, beq_iff_eq, ← h]
    constructor
    · intro h; rw [h]
    · intro h; exact UInt8.toNat_inj.1 (by exact_mod_cast h)
  unfold nmC
  rw [bne, bne, e 47, e 91]
  rfl
theorem at_z {x : UInt8} {z : Int} (c : UInt8) (h : (x.toNat : Int) = z) : x = c ↔ z = (c.toNat : Int) := by
  rw [← h]
  constructor
  · intro h; rw [h]
  · intro h; exact UInt8.toNat_inj.1 (by exact_mod_cast h)
theorem nm_47 {x : UInt8} (h : ¬ nmC x = true) (h2 : x ≠ 91) : x = 47 := by
  apply Classical.byContradiction
  intro h3
  apply h
  unfold nmC
  rw [bne_iff_ne.2 h3, bne_iff_ne.2 h2]
  rfl
theorem parse_long12 {s : List UInt8} (h : 400 < s.length) : parseP s = none := by
  cases hp : parseP s with
  | none => rfl
  | some p => have := (parseP_iff.1 hp).2.2; omega
theorem rdslice_mid (s : List UInt8) (i j : Nat) (h1 : i + 1 ≤ j) (h2 : j ≤ s.length) (w : World) :
    (Instr.slice 9 (.string (str s)) (some (.int .i64 ((i : Int) + 1))) (some (.int .i64 (j : Int))) none).run Tryz.prog w = .ok (.string (str ((s.drop (i + 1)).take (j - (i + 1))))) w := by
  rw [run_slice_string w 9 (str s) .i64 .i64 ((i : Int) + 1) (j : Int) Tryz.underlying9 (by omega) (by omega) (by rw [str_size]; omega), show ((i : Int) + 1).toNat = i + 1 by omega, show (j : Int).toNat = j by omega, extract_strI]
  rw [List.drop_take]
theorem rdslice_from (s : List UInt8) (j : Nat) (h2 : j + 1 ≤ s.length) (w : World) :
    (Instr.slice 9 (.string (str s)) (some (.int .i64 ((j : Int) + 1))) none none).run Tryz.prog w = .ok (.string (str (s.drop (j + 1)))) w := by
  rw [run_slice_string_l (ht := Tryz.underlying9) (h0 := by omega) (h1 := by rw [str_size]; omega), show ((j : Int) + 1).toNat = j + 1 by omega, str_size, extract_strI, List.take_length]
set_option maxRecDepth 100000 in
set_option maxHeartbeats 8000000 in
theorem rparse12_way (s : List UInt8) (hs : s.length ≤ 400) (w : World) :
    Calls Tryz.prog 28 #[.string (str s)] w (PathPost s w) := by
  have hss := str_size s
  have d0 : ¬ (400 : Int) < (s.length : Int) := by omega
  have HE0 := Lib.hid ((Ext.refl w).alloc (.cells #[.int .i64 0, .slice none 0 0] 58))
  have HR0 := Lib.hid (BoxL.new w [.int .i64 0, .slice none 0 0] 58)
  go_enter Tryz.func28, Tryz.ntmps28
  go_upto_region 1 with (fail)
  have hz1 : (w.alloc (.cells #[.int .i64 0, .slice none 0 0] 58)).heap.size = w.heap.size + 1 := Array.size_push _
  generalize w.alloc (.cells #[.int .i64 0, .slice none 0 0] 58) = W1 at *
  go_wp2_with fail
  refine (rnumber12_any s (by omega) W1).mono ?_
  rintro e w1 ⟨rfl, rfl, hn0, hn1⟩
  have HL := Lib.hid (rnum_le 7 0 s)
  have hE2 := HE0.out.alloc (.cells #[.int .i64 (rnum 7 0 s).1, .slice none 0 0] 58)
  have hR2 := HR0.out.ext ((Ext.refl W1).alloc (.cells #[.int .i64 (rnum 7 0 s).1, .slice none 0 0] 58))
  have hB2 := BoxL.new W1 [.int .i64 (rnum 7 0 s).1, .slice none 0 0] 58
  rw [hz1] at hB2
  have HRR := Lib.hid (show RRd s w (rnum 7 0 s).1 (rnum 7 0 s).2 (W1.alloc (.cells #[.int .i64 (rnum 7 0 s).1, .slice none 0 0] 58)) from
    ⟨[], none, 0, by have := HL.out.2; omega, by simp, rd_zero.1, hE2, hR2, hB2, OwnSt.nil _ _ _⟩)
  clear hE2 hR2 hB2 HL HE0 HR0
  generalize hfl : (rnum 7 0 s).1 = fl at HRR hn0 hn1 ⊢
  have HFL2 := Lib.hid hfl
  clear hfl
  go_upto_region 5 with (fail)
  generalize W1.alloc (.cells #[.int .i64 fl, .slice none 0 0] 58) = W2 at *
  generalize (rnum 7 0 s).2 = at0 at *
  clear hz1
  go_wp2_with fail
  go_loopw [5, 7, 8, 9, 10] (fun i _ _ _ _ wr => ∃ k : Nat, i = .int .i64 k ∧ Hid (RRd s w fl k wr)) (fun i _ _ _ _ _ => 1000 - (intOf i).toNat)
  case atStart => exact ⟨at0, rfl, HRR⟩
  case round =>
    clear HRR
    obtain ⟨i, rfl, HR⟩ := hrel
    obtain ⟨l, a, c, hi, hli, hrd, hE, hR, hB, hO⟩ := HR.out
    have HRD := Lib.hid hrd
    have HE0 := Lib.hid hE
    have BR := Lib.hid hR
    have BP := Lib.hid hB
    have HO0 := Lib.hid hO
    clear HR hrd hE hR hB hO
    by_cases hend : ∀ h : i < s.length, s[i] ≠ 47
    case pos =>
      have HPN := Lib.hid (rd_parse HRD.out hend hs)
      rw [HFL2.out] at HPN
      have hll : l.length ≤ 10000 := by omega
      have HV := Lib.hid (show PthV wr ⟨fl, l⟩ (.agg #[.int .i64 fl, .slice a l.length c]) from ⟨a, _, c, rfl, HO0.out.row, by show isI64 fl; unfold isI64; omega⟩)
      have p0 := BP.out.cell 0 _ rfl
      have p1 := BP.out.cell 1 _ rfl
      have hbe := str_beq (showP ⟨fl, l⟩) s
      clear HRD
      by_cases hlt : i < s.length
      case' pos =>
        obtain ⟨x, hx⟩ : ∃ x, x = s[i]?.getD 0 := ⟨_, rfl⟩
        have hxs : x = s[i] := by rw [hx]; simp [hlt]
        have hix := run_index_str (P := Tryz.prog) Tryz.underlying9 s i hlt
        rw [← hx] at hix
        have h9 : ¬ x = 47 := fun h => hend hlt (hxs ▸ h)
        generalize hz : (x.toNat : Int) = z at *
        rw [at_z 47 hz, show (((47 : UInt8).toNat : Nat) : Int) = 47 from rfl] at h9
        have y1 : (z == 47) = false := by simpa using h9
        clear hx hxs hz
      all_goals
        clear hend
        go_wp2_with fail
        refine (rshow12_any ⟨fl, l⟩ hll wr _ HV.out).mono ?_
        rintro e w5 ⟨rfl, hE5⟩
        have BP5 := Lib.hid (BP.out.ext hE5)
        have BR5 := Lib.hid (BR.out.ext hE5)
        have HE5 := Lib.hid (HE0.out.trans hE5)
        have HO5 := Lib.hid (HO0.out.ext hE5)
        have r0 := BP5.out.cell 0 _ rfl
        have r1 := BP5.out.cell 1 _ rfl
        have t0 := BR5.out.cell 0 _ rfl
        have t1 := BR5.out.cell 1 _ rfl
        have t2 := BR5.out.free 0
        have t3 := BR5.out.free 1
        clear hE5 p0 p1 BP BR HE0 HO0 HV
        by_cases hq : showP ⟨fl, l⟩ = s ∧ s ≠ []
        · have HX := Lib.hid (show parseP s = some ⟨fl, l⟩ by rw [HPN.out, if_pos hq])
          have b1 : ((str (showP ⟨fl, l⟩)).toList == (str s).toList) = true := by rw [hbe]; simp [hq.1]
          have b2 : (str s).toList.isEmpty = false := by
            rw [str_toList]
            cases hs2 : s with
            | nil => exact absurd hs2 hq.2
            | cons _ _ => rfl
          clear hbe hq HPN
          generalize showP ⟨fl, l⟩ = sh at *
          have hs2 := set2_facts (x := .int .i64 fl) (y := .slice a l.length c) HE5.out BR5.out (Nat.le_refl _)
          have c0 := hs2.2.cell 0 _ rfl
          have c1 := hs2.2.cell 1 _ rfl
          have hO6 := (show OwnSt 79 w.heap.size (set2W w5 w.heap.size (.int .i64 fl) (.slice a l.length c)) (.slice a l.length c) l from
            ((HO5.out.kept (row := some w.heap.size) (grown_set w5 w.heap.size 0 _) (fun b e => by injection e with e; omega)).kept (row := some w.heap.size) (grown_set _ w.heap.size 1 _) (fun b e => by injection e with e; omega)).mono (by omega))
          have HZ := Lib.hid (show PathPost s w (.returned (.tuple #[.agg #[.int .i64 fl, .slice a l.length c], .bool true])) (set2W w5 w.heap.size (.int .i64 fl) (.slice a l.length c)) from
            ⟨_, by rw [HX.out]; rfl, hs2.1, (fun h => by rw [HX.out] at h; cases h), fun p hp => by
              rw [HX.out] at hp
              injection hp with hp
              subst hp
              exact ⟨a, _, c, rfl, hO6, by show isI64 fl; unfold isI64; omega⟩⟩)
          clear hs2 hO6 HX
          go_wp2
          change bodyPost _ _ _ _ _ (set2W w5 w.heap.size (.int .i64 fl) (.slice a l.length c))
          generalize set2W w5 w.heap.size (.int .i64 fl) (.slice a l.length c) = Wn at *
          exact bodyPost_ret (v := .tuple #[.agg #[.int .i64 fl, .slice a l.length c], .bool true]) (by simp [results, Tryz.results28, go_sem, c0, c1]) rfl HZ.out
        · have HX := Lib.hid (show parseP s = none by rw [HPN.out, if_neg hq])
          have hs2 := set2_facts (x := .int .i64 0) (y := .slice none 0 0) HE5.out BR5.out (Nat.le_refl _)
          have c0 := hs2.2.cell 0 _ rfl
          have c1 := hs2.2.cell 1 _ rfl
          have HZ := Lib.hid (show PathPost s w (.returned (.tuple #[.agg #[.int .i64 0, .slice none 0 0], .bool false])) (set2W w5 w.heap.size (.int .i64 0) (.slice none 0 0)) from
            ⟨_, by rw [HX.out]; rfl, hs2.1, (fun h => rfl), fun p hp => by rw [HX.out] at hp; cases hp⟩)
          clear hs2 HX HPN
          by_cases hq1 : showP ⟨fl, l⟩ = s
          · have b1 : ((str (showP ⟨fl, l⟩)).toList == (str s).toList) = true := by rw [hbe]; simp [hq1]
            have b2 : (str s).toList.isEmpty = true := by
              rw [str_toList]
              by_cases h0 : s = []
              · simp [h0]
              · exact absurd ⟨hq1, h0⟩ hq
            clear hbe hq hq1
            generalize showP ⟨fl, l⟩ = sh at *
            go_wp2
            change bodyPost _ _ _ _ _ (set2W w5 w.heap.size (.int .i64 0) (.slice none 0 0))
            generalize set2W w5 w.heap.size (.int .i64 0) (.slice none 0 0) = Wn at *
            exact bodyPost_ret (v := .tuple #[.agg #[.int .i64 0, .slice none 0 0], .bool false]) (by simp [results, Tryz.results28, go_sem, c0, c1]) rfl HZ.out
          · have b1 : ((str (showP ⟨fl, l⟩)).toList == (str s).toList) = false := by rw [hbe]; simp [hq1]
            clear hbe hq hq1
            generalize showP ⟨fl, l⟩ = sh at *
            go_wp2
            change bodyPost _ _ _ _ _ (set2W w5 w.heap.size (.int .i64 0) (.slice none 0 0))
            generalize set2W w5 w.heap.size (.int .i64 0) (.slice none 0 0) = Wn at *
            exact bodyPost_ret (v := .tuple #[.agg #[.int .i64 0, .slice none 0 0], .bool false]) (by simp [results, Tryz.results28, go_sem, c0, c1]) rfl HZ.out
    case neg =>
      obtain ⟨hlt, h47⟩ : ∃ h : i < s.length, s[i] = 47 := by
        apply Classical.byContradiction
        intro hn
        exact hend (fun h e => hn ⟨h, e⟩)
      have hix := run_index_str (P := Tryz.prog) Tryz.underlying9 s i hlt
      rw [show s[i]?.getD 0 = 47 by rw [List.getElem?_eq_getElem hlt, h47]; rfl, show (((47 : UInt8).toNat : Nat) : Int) = 47 from rfl] at hix
      clear h47 hend
      go_wp2_with fail
      go_loop [5] (fun j => ∃ (e k : Nat), Hid (e = i + 1 + k) ∧ i + 1 ≤ e ∧ j = .int .i64 e ∧ e ≤ s.length ∧ Hid (((s.drop (i + 1)).take k).all nmC = true)) (fun j => s.length - (intOf j).toNat)
      case atStart => exact ⟨i + 1, 0, Lib.hid rfl, by omega, by go_num, by omega, Lib.hid (by simp)⟩
      case round =>
        clear hix
        obtain ⟨e, k, HEK, hie, rfl, hel, HA⟩ := hrel
        by_cases hmore : ∃ h : e < s.length, nmC s[e] = true
        case pos =>
          obtain ⟨helt, hnm⟩ := hmore
          obtain ⟨x, hx⟩ : ∃ x, x = s[e]?.getD 0 := ⟨_, rfl⟩
          have hxs : x = s[e] := by rw [hx]; simp [helt]
          have hix := run_index_str (P := Tryz.prog) Tryz.underlying9 s e helt
          rw [← hx] at hix
          have HA2 := Lib.hid (show ((s.drop (i + 1)).take (k + 1)).all nmC = true by
            have hek := HEK.out
            subst hek; exact rd_more HA.out helt hnm)
          rw [← hxs] at hnm
          generalize hz : (x.toNat : Int) = z at *
          rw [nm_z hz, Bool.and_eq_true, Bool.not_eq_true', Bool.not_eq_true'] at hnm
          obtain ⟨z1, z2⟩ := hnm
          have y1 : (z != 47) = true := by simp [bne, z1]
          have y2 : (z != 91) = true := by simp [bne, z2]
          have x1 : ¬ z = 47 := by simpa using z1
          have x2 : ¬ z = 91 := by simpa using z2
          clear hx hxs hz HA
          go_wp2
          go_round
          case rel => exact ⟨e + 1, k + 1, Lib.hid (by have := HEK.out; omega), by omega, by go_num, by omega, HA2⟩
          case measure => simp [intOf]; omega
        case neg =>
          have hst : rdNm s i = (s.drop (i + 1)).take k ∧ rdEnd s i = e := by
            have hek := HEK.out
            subst hek
            exact rd_stop HA.out hel (fun h => by
              cases hq : nmC s[i + 1 + k] with
              | false => rfl
              | true => exact absurd ⟨h, hq⟩ hmore)
          have hsl := fun wz => rdslice_mid s i e (by omega) hel wz
          rw [show e - (i + 1) = k by have := HEK.out; omega, ← hst.1] at hsl
          have hnm : (rdNm s i).length ≤ 9223372036854775807 := by have := rdNm_len s i; omega
          have HNM := Lib.hid (show rdNm s i = rdNm s i from rfl)
          have HST := Lib.hid hst.2
          clear hst HA HEK
          by_cases hbr : ∃ h : e < s.length, s[e] = 91
          case pos =>
            obtain ⟨helt, h91⟩ := hbr
            have HRD := Lib.hid (rd_place HRD.out hlt (by unfold rdBr; rw [HST.out]; exact ⟨helt, h91⟩))
            have hix := run_index_str (P := Tryz.prog) Tryz.underlying9 s e helt
            rw [show s[e]?.getD 0 = 91 by rw [List.getElem?_eq_getElem helt, h91]; rfl, show (((91 : UInt8).toNat : Nat) : Int) = 91 from rfl] at hix
            have hsl2 := fun wz => rdslice_from s e helt wz
            have hdl : (s.drop (e + 1)).length ≤ 400 := by rw [List.length_drop]; omega
            have hrl := rnum_le 7 0 (s.drop (e + 1))
            have hdl2 : (s.drop (e + 1)).length = s.length - (e + 1) := by rw [List.length_drop]
            rw [HST.out] at HRD
            have hni : e + (rnum 7 0 (s.drop (e + 1))).2 + 2 ≤ s.length + 1 := by omega
            have hEa := (Ext.refl wr).alloc (.cells #[.string (str (rdNm s i)), .int .i64 (-1)] 79)
            have B8 := Lib.hid (BoxL.new wr [.string (str (rdNm s i)), .int .i64 (-1)] 79)
            have hlt8 := HO0.out.lt
            have hz8 := BP.out.lt
            have BPa := Lib.hid (BP.out.ext hEa)
            have BRa := Lib.hid (BR.out.ext hEa)
            have HEa := Lib.hid (HE0.out.trans hEa)
            have HOa := Lib.hid (HO0.out.ext hEa)
            clear h91 hmore HNM HST BP BR HE0 HO0 hEa
            go_upto_region 11 with (fail)
            generalize wr.alloc (.cells #[.string (str (rdNm s i)), .int .i64 (-1)] 79) = Wa at *
            generalize wr.heap.size = S8 at *
            generalize rdNm s i = nm at *
            have HLT8 := Lib.hid hlt8
            clear hlt8
            go_wp2_with fail
            refine (rnumber12_any (s.drop (e + 1)) (by omega) Wa).mono ?_
            rintro x w5 ⟨rfl, rfl, hk0, hk1⟩
            generalize (rnum 7 0 (s.drop (e + 1))).1 = K at *
            generalize (rnum 7 0 (s.drop (e + 1))).2 = lg at *
            have x0 := B8.out.cell 0 _ rfl
            have x1 := B8.out.cell 1 _ rfl
            have x2 := B8.out.free 1
            have hgs8 := grown_set Wa S8 1 (.int .i64 K)
            have B8b := Lib.hid (B8.out.set 1 (by simp) (.int .i64 K))
            have BPb := Lib.hid (BPa.out.kept hgs8 (fun e => by injection e with e; omega))
            have BRb := Lib.hid (BRa.out.kept hgs8 (fun e => by injection e with e; omega))
            have HEb := Lib.hid (HEa.out.setCell (p := ⟨S8, 1, none⟩) (by show w.heap.size ≤ S8; omega) (.int .i64 K))
            have HOb := Lib.hid (show OwnSt 79 (w.heap.size + 2) (Wa.setCell ⟨S8, 1, none⟩ (.int .i64 K)) (.slice a l.length c) l from
              ⟨World.ownsRow.kept HOa.out.1 hgs8 (.inr (fun e => by have := (HLT8.out S8 e).2; omega)), HOa.out.2⟩)
            have HPL : Hid (isI64 K) := Lib.hid (by unfold isI64; omega)
            clear hgs8 B8 BPa BRa HEa HOa HLT8
            have B8 := B8b
            have BP := BPb
            have BR := BRb
            have HE0 := HEb
            have HO0 := HOb
            clear B8b BPb BRb HEb HOb
            go_upto_region 14 with (fail)
            generalize Wa.setCell ⟨S8, 1, none⟩ (.int .i64 K) = Wb at *
            clear x0 x1 x2 hsl hsl2 hix
            go_upto_region 15 with (fail)
            have hEn := (Ext.refl Wb).alloc (.cells #[.string (str nm), .int .i64 K] 79)
            have HB := Lib.hid (BP.out.ext hEn)
            have HBR := Lib.hid (BR.out.ext hEn)
            have HE := Lib.hid (HE0.out.trans hEn)
            have HO := Lib.hid (HO0.out.ext hEn)
            have HNB := Lib.hid (box_add (BoxL.new Wb [.string (str nm), .int .i64 K] 79))
            obtain ⟨-, hb1, hb2⟩ := ownSt_bounds HO0.out
            have HLT := Lib.hid HO0.out.lt
            have p1 := BP.out.cell 1 _ rfl
            have p2 := BP.out.free 1
            have q0 := B8.out.cell 0 _ rfl
            have q1 := B8.out.cell 1 _ rfl
            have HZ : Hid (w.heap.size + 2 ≤ (Wb.alloc (.cells #[.string (str nm), .int .i64 K] 79)).heap.size) := Lib.hid (by have := BP.out.lt; have := hEn.size; omega)
            clear hEn B8 BP BR HE0 HO0
            go_wp2_with (at_builtin; refine wpList_appAt _ elem_step rfl _ _ 56 rfl (w.heap.size + 2) _ l.length (stpsCells l) rfl HO.out.1 _ 1 (stpCells ⟨nm, K⟩) rfl (Src.ofSlice _ Tryz.underlying56 ⟨Wb.heap.size, 0, none⟩ 1 1 (stpCells ⟨nm, K⟩) rfl HNB.out (by simp [stpCells, Value.oneCell'])) ?c1 ?c2 HZ.out ?_)
            case c1 => unfold maxLen; omega
            case c2 => omega
            intro v' w5 hown' hgrow hat
            obtain ⟨g', cap', rfl⟩ := ownsRow_succ hown'
            have hg' : w.heap.size + 2 ≤ g' := (World.ownsRow.lt hown' g' rfl).1
            have HB5 := Lib.hid (HB.out.kept hgrow (fun e => by have := (HLT.out _ e).1; omega))
            have HBR5 := Lib.hid (HBR.out.kept hgrow (fun e => by have := (HLT.out _ e).1; omega))
            have HE5 := Lib.hid (HE.out.grown hgrow (fun k e => by have := (HLT.out _ e).1; omega))
            have HO5 := Lib.hid (OwnSt.snoc hown' HO.out.2 (x := ⟨nm, K⟩) ⟨hnm, HPL.out⟩)
            have r1 := HB5.out.cell 1 _ rfl
            have r2 := HB5.out.free 1
            have hgs := grown_set w5 (w.heap.size + 1) 1 (.slice (some ⟨g', 0, none⟩) (l.length + 1) cap')
            have HB6 := Lib.hid (HB5.out.set 1 (by simp) (.slice (some ⟨g', 0, none⟩) (l.length + 1) cap'))
            have HBR6 := Lib.hid (HBR5.out.kept hgs (fun e => by injection e with e; omega))
            have HE6 := Lib.hid (HE5.out.setCell (p := ⟨w.heap.size + 1, 1, none⟩) (by show w.heap.size ≤ w.heap.size + 1; omega) (.slice (some ⟨g', 0, none⟩) (l.length + 1) cap'))
            have HO6 := Lib.hid (show OwnSt 79 (w.heap.size + 2) (w5.setCell ⟨w.heap.size + 1, 1, none⟩ (.slice (some ⟨g', 0, none⟩) (l.length + 1) cap')) (.slice (some ⟨g', 0, none⟩) (l.length + 1) cap') (l ++ [⟨nm, K⟩]) from
              ⟨World.ownsRow.kept HO5.out.1 hgs (.inr (fun e => by injection e with e; have e : g' = w.heap.size + 1 := e; omega)), HO5.out.2⟩)
            clear p1 p2 q0 q1 hown' hgrow hat hgs HO5 HB5 HBR5 HE5 HB HBR HE HO HNB HLT HZ
            have HRR := Lib.hid (show RRd s w fl (e + lg + 2) (w5.setCell ⟨w.heap.size + 1, 1, none⟩ (.slice (some ⟨g', 0, none⟩) (l.length + 1) cap')) from
              ⟨l ++ [⟨nm, K⟩], _, cap', hni, by rw [List.length_append]; show l.length + 1 ≤ _; omega, HRD.out, HE6.out, HBR6.out, by rw [List.length_append]; exact HB6.out, by rw [List.length_append]; exact HO6.out⟩)
            clear HB6 HBR6 HE6 HO6 HRD
            go_wp2_with fail
            go_roundw
            case rel => exact ⟨(e + lg + 2), by go_num, HRR⟩
            case measure => simp [intOf]; omega
          case neg =>
            by_cases helt : e < s.length
            case pos =>
              have hix := run_index_str (P := Tryz.prog) Tryz.underlying9 s e helt
              have h47 : s[e] = 47 := nm_47 (fun h => hmore ⟨helt, h⟩) (fun q => hbr ⟨helt, q⟩)
              rw [show s[e]?.getD 0 = 47 by rw [List.getElem?_eq_getElem helt, h47]; rfl, show (((47 : UInt8).toNat : Nat) : Int) = 47 from rfl] at hix
              clear h47
              have HRD := Lib.hid (rd_plain HRD.out hlt (by unfold rdBr; rw [HST.out]; exact hbr))
              rw [HST.out] at HRD
              have hni : e ≤ s.length + 1 := by omega
              have hEa := (Ext.refl wr).alloc (.cells #[.string (str (rdNm s i)), .int .i64 (-1)] 79)
              have B8 := Lib.hid (BoxL.new wr [.string (str (rdNm s i)), .int .i64 (-1)] 79)
              have BPa := Lib.hid (BP.out.ext hEa)
              have BRa := Lib.hid (BR.out.ext hEa)
              have HEa := Lib.hid (HE0.out.trans hEa)
              have HOa := Lib.hid (HO0.out.ext hEa)
              have HPL : Hid (isI64 (-1)) := Lib.hid (by unfold isI64; omega)
              clear HNM HST BP BR HE0 HO0 hEa hmore hbr
              have BP := BPa
              have BR := BRa
              have HE0 := HEa
              have HO0 := HOa
              clear BPa BRa HEa HOa
              go_upto_region 11 with (fail)
              generalize wr.alloc (.cells #[.string (str (rdNm s i)), .int .i64 (-1)] 79) = Wa at *
              generalize wr.heap.size = S8 at *
              generalize rdNm s i = nm at *
              clear hsl
              go_upto_region 15 with (fail)
              have hEn := (Ext.refl Wa).alloc (.cells #[.string (str nm), .int .i64 (-1)] 79)
              have HB := Lib.hid (BP.out.ext hEn)
              have HBR := Lib.hid (BR.out.ext hEn)
              have HE := Lib.hid (HE0.out.trans hEn)
              have HO := Lib.hid (HO0.out.ext hEn)
              have HNB := Lib.hid (box_add (BoxL.new Wa [.string (str nm), .int .i64 (-1)] 79))
              obtain ⟨-, hb1, hb2⟩ := ownSt_bounds HO0.out
              have HLT := Lib.hid HO0.out.lt
              have p1 := BP.out.cell 1 _ rfl
              have p2 := BP.out.free 1
              have q0 := B8.out.cell 0 _ rfl
              have q1 := B8.out.cell 1 _ rfl
              have HZ : Hid (w.heap.size + 2 ≤ (Wa.alloc (.cells #[.string (str nm), .int .i64 (-1)] 79)).heap.size) := Lib.hid (by have := BP.out.lt; have := hEn.size; omega)
              clear hEn B8 BP BR HE0 HO0
              go_wp2_with (at_builtin; refine wpList_appAt _ elem_step rfl _ _ 56 rfl (w.heap.size + 2) _ l.length (stpsCells l) rfl HO.out.1 _ 1 (stpCells ⟨nm, (-1)⟩) rfl (Src.ofSlice _ Tryz.underlying56 ⟨Wa.heap.size, 0, none⟩ 1 1 (stpCells ⟨nm, (-1)⟩) rfl HNB.out (by simp [stpCells, Value.oneCell'])) ?c1 ?c2 HZ.out ?_)
              case c1 => unfold maxLen; omega
              case c2 => omega
              intro v' w5 hown' hgrow hat
              obtain ⟨g', cap', rfl⟩ := ownsRow_succ hown'
              have hg' : w.heap.size + 2 ≤ g' := (World.ownsRow.lt hown' g' rfl).1
              have HB5 := Lib.hid (HB.out.kept hgrow (fun e => by have := (HLT.out _ e).1; omega))
              have HBR5 := Lib.hid (HBR.out.kept hgrow (fun e => by have := (HLT.out _ e).1; omega))
              have HE5 := Lib.hid (HE.out.grown hgrow (fun k e => by have := (HLT.out _ e).1; omega))
              have HO5 := Lib.hid (OwnSt.snoc hown' HO.out.2 (x := ⟨nm, (-1)⟩) ⟨hnm, HPL.out⟩)
              have r1 := HB5.out.cell 1 _ rfl
              have r2 := HB5.out.free 1
              have hgs := grown_set w5 (w.heap.size + 1) 1 (.slice (some ⟨g', 0, none⟩) (l.length + 1) cap')
              have HB6 := Lib.hid (HB5.out.set 1 (by simp) (.slice (some ⟨g', 0, none⟩) (l.length + 1) cap'))
              have HBR6 := Lib.hid (HBR5.out.kept hgs (fun e => by injection e with e; omega))
              have HE6 := Lib.hid (HE5.out.setCell (p := ⟨w.heap.size + 1, 1, none⟩) (by show w.heap.size ≤ w.heap.size + 1; omega) (.slice (some ⟨g', 0, none⟩) (l.length + 1) cap'))
              have HO6 := Lib.hid (show OwnSt 79 (w.heap.size + 2) (w5.setCell ⟨w.heap.size + 1, 1, none⟩ (.slice (some ⟨g', 0, none⟩) (l.length + 1) cap')) (.slice (some ⟨g', 0, none⟩) (l.length + 1) cap') (l ++ [⟨nm, (-1)⟩]) from
                ⟨World.ownsRow.kept HO5.out.1 hgs (.inr (fun e => by injection e with e; have e : g' = w.heap.size + 1 := e; omega)), HO5.out.2⟩)
              clear p1 p2 q0 q1 hown' hgrow hat hgs HO5 HB5 HBR5 HE5 HB HBR HE HO HNB HLT HZ
              have HRR := Lib.hid (show RRd s w fl e (w5.setCell ⟨w.heap.size + 1, 1, none⟩ (.slice (some ⟨g', 0, none⟩) (l.length + 1) cap')) from
                ⟨l ++ [⟨nm, (-1)⟩], _, cap', hni, by rw [List.length_append]; show l.length + 1 ≤ _; omega, HRD.out, HE6.out, HBR6.out, by rw [List.length_append]; exact HB6.out, by rw [List.length_append]; exact HO6.out⟩)
              clear HB6 HBR6 HE6 HO6 HRD
              go_wp2_with fail
              go_roundw
              case rel => exact ⟨e, by go_num, HRR⟩
              case measure => simp [intOf]; omega
            case neg =>
              have HRD := Lib.hid (rd_plain HRD.out hlt (by unfold rdBr; rw [HST.out]; exact hbr))
              rw [HST.out] at HRD
              have hni : e ≤ s.length + 1 := by omega
              have hEa := (Ext.refl wr).alloc (.cells #[.string (str (rdNm s i)), .int .i64 (-1)] 79)
              have B8 := Lib.hid (BoxL.new wr [.string (str (rdNm s i)), .int .i64 (-1)] 79)
              have BPa := Lib.hid (BP.out.ext hEa)
              have BRa := Lib.hid (BR.out.ext hEa)
              have HEa := Lib.hid (HE0.out.trans hEa)
              have HOa := Lib.hid (HO0.out.ext hEa)
              have HPL : Hid (isI64 (-1)) := Lib.hid (by unfold isI64; omega)
              clear HNM HST BP BR HE0 HO0 hEa hmore hbr
              have BP := BPa
              have BR := BRa
              have HE0 := HEa
              have HO0 := HOa
              clear BPa BRa HEa HOa
              go_upto_region 11 with (fail)
              generalize wr.alloc (.cells #[.string (str (rdNm s i)), .int .i64 (-1)] 79) = Wa at *
              generalize wr.heap.size = S8 at *
              generalize rdNm s i = nm at *
              clear hsl
              go_upto_region 15 with (fail)
              have hEn := (Ext.refl Wa).alloc (.cells #[.string (str nm), .int .i64 (-1)] 79)
              have HB := Lib.hid (BP.out.ext hEn)
              have HBR := Lib.hid (BR.out.ext hEn)
              have HE := Lib.hid (HE0.out.trans hEn)
              have HO := Lib.hid (HO0.out.ext hEn)
              have HNB := Lib.hid (box_add (BoxL.new Wa [.string (str nm), .int .i64 (-1)] 79))
              obtain ⟨-, hb1, hb2⟩ := ownSt_bounds HO0.out
              have HLT := Lib.hid HO0.out.lt
              have p1 := BP.out.cell 1 _ rfl
              have p2 := BP.out.free 1
              have q0 := B8.out.cell 0 _ rfl
              have q1 := B8.out.cell 1 _ rfl
              have HZ : Hid (w.heap.size + 2 ≤ (Wa.alloc (.cells #[.string (str nm), .int .i64 (-1)] 79)).heap.size) := Lib.hid (by have := BP.out.lt; have := hEn.size; omega)
              clear hEn B8 BP BR HE0 HO0
              go_wp2_with (at_builtin; refine wpList_appAt _ elem_step rfl _ _ 56 rfl (w.heap.size + 2) _ l.length (stpsCells l) rfl HO.out.1 _ 1 (stpCells ⟨nm, (-1)⟩) rfl (Src.ofSlice _ Tryz.underlying56 ⟨Wa.heap.size, 0, none⟩ 1 1 (stpCells ⟨nm, (-1)⟩) rfl HNB.out (by simp [stpCells, Value.oneCell'])) ?c1 ?c2 HZ.out ?_)
              case c1 => unfold maxLen; omega
              case c2 => omega
              intro v' w5 hown' hgrow hat
              obtain ⟨g', cap', rfl⟩ := ownsRow_succ hown'
              have hg' : w.heap.size + 2 ≤ g' := (World.ownsRow.lt hown' g' rfl).1
              have HB5 := Lib.hid (HB.out.kept hgrow (fun e => by have := (HLT.out _ e).1; omega))
              have HBR5 := Lib.hid (HBR.out.kept hgrow (fun e => by have := (HLT.out _ e).1; omega))
              have HE5 := Lib.hid (HE.out.grown hgrow (fun k e => by have := (HLT.out _ e).1; omega))
              have HO5 := Lib.hid (OwnSt.snoc hown' HO.out.2 (x := ⟨nm, (-1)⟩) ⟨hnm, HPL.out⟩)
              have r1 := HB5.out.cell 1 _ rfl
              have r2 := HB5.out.free 1
              have hgs := grown_set w5 (w.heap.size + 1) 1 (.slice (some ⟨g', 0, none⟩) (l.length + 1) cap')
              have HB6 := Lib.hid (HB5.out.set 1 (by simp) (.slice (some ⟨g', 0, none⟩) (l.length + 1) cap'))
              have HBR6 := Lib.hid (HBR5.out.kept hgs (fun e => by injection e with e; omega))
              have HE6 := Lib.hid (HE5.out.setCell (p := ⟨w.heap.size + 1, 1, none⟩) (by show w.heap.size ≤ w.heap.size + 1; omega) (.slice (some ⟨g', 0, none⟩) (l.length + 1) cap'))
              have HO6 := Lib.hid (show OwnSt 79 (w.heap.size + 2) (w5.setCell ⟨w.heap.size + 1, 1, none⟩ (.slice (some ⟨g', 0, none⟩) (l.length + 1) cap')) (.slice (some ⟨g', 0, none⟩) (l.length + 1) cap') (l ++ [⟨nm, (-1)⟩]) from
                ⟨World.ownsRow.kept HO5.out.1 hgs (.inr (fun e => by injection e with e; have e : g' = w.heap.size + 1 := e; omega)), HO5.out.2⟩)
              clear p1 p2 q0 q1 hown' hgrow hat hgs HO5 HB5 HBR5 HE5 HB HBR HE HO HNB HLT HZ
              have HRR := Lib.hid (show RRd s w fl e (w5.setCell ⟨w.heap.size + 1, 1, none⟩ (.slice (some ⟨g', 0, none⟩) (l.length + 1) cap')) from
                ⟨l ++ [⟨nm, (-1)⟩], _, cap', hni, by rw [List.length_append]; show l.length + 1 ≤ _; omega, HRD.out, HE6.out, HBR6.out, by rw [List.length_append]; exact HB6.out, by rw [List.length_append]; exact HO6.out⟩)
              clear HB6 HBR6 HE6 HO6 HRD
              go_wp2_with fail
              go_roundw
              case rel => exact ⟨e, by go_num, HRR⟩
              case measure => simp [intOf]; omega
set_option maxHeartbeats 1000000 in
theorem rparse12_any (s : List UInt8) (hs : s.length ≤ 9223372036854775807) (w : World) :
    Calls Tryz.prog 28 #[.string (str s)] w (PathPost s w) := by
  by_cases hl : s.length ≤ 400
  · exact rparse12_way s hl w
  · have hss := str_size s
    have d0 : (400 : Int) < (s.length : Int) := by omega
    have HX := Lib.hid (parse_long12 (s := s) (by omega))
    have HE0 := Lib.hid ((Ext.refl w).alloc (.cells #[.int .i64 0, .slice none 0 0] 58))
    have BR := Lib.hid (BoxL.new w [.int .i64 0, .slice none 0 0] 58)
    go_enter Tryz.func28, Tryz.ntmps28
    go_upto_region 1 with (fail)
    generalize w.alloc (.cells #[.int .i64 0, .slice none 0 0] 58) = w5 at *
    have hs2 := set2_facts (x := .int .i64 0) (y := .slice none 0 0) HE0.out BR.out (Nat.le_refl _)
    have t0 := BR.out.cell 0 _ rfl
    have t1 := BR.out.cell 1 _ rfl
    have t2 := BR.out.free 0
    have t3 := BR.out.free 1
    have c0 := hs2.2.cell 0 _ rfl
    have c1 := hs2.2.cell 1 _ rfl
    have HZ := Lib.hid (show PathPost s w (.returned (.tuple #[.agg #[.int .i64 0, .slice none 0 0], .bool false])) (set2W w5 w.heap.size (.int .i64 0) (.slice none 0 0)) from
      ⟨_, by rw [HX.out]; rfl, hs2.1, (fun h => rfl), fun p hp => by rw [HX.out] at hp; cases hp⟩)
    clear hs2 HX
    go_wp2
    change bodyPost _ _ _ _ _ (set2W w5 w.heap.size (.int .i64 0) (.slice none 0 0))
    generalize set2W w5 w.heap.size (.int .i64 0) (.slice none 0 0) = Wn at *
    exact bodyPost_ret (v := .tuple #[.agg #[.int .i64 0, .slice none 0 0], .bool false]) (by simp [results, Tryz.results28, go_sem, c0, c1]) rfl HZ.out
end Go.Proofs.YtbciamploeejiaaGreatDoor

open Go.RowKit Go.Shelf
namespace Go.Proofs.YtbciamploeejiaaGreatDoor
open Go Go.Proofs Fm

theorem cmpB_ne {x y : List UInt8} (h : x ≠ y) : cmpB x y ≠ 0 ∧ decide (cmpB x y < 0) = decide (x < y) := by
  unfold cmpB
  by_cases h1 : x < y
  · rw [if_pos h1]; simp [h1]
  · rw [if_neg h1]
    have h2 : y < x := by
      rcases lt_tri x y with h3 | h3 | h3
      · exact absurd h3 h1
      · exact absurd h3 h
      · exact h3
    rw [if_pos h2]
    simp [h1]
theorem cmpI_ne {x y : Int} (h : x ≠ y) : cmpI x y ≠ 0 ∧ decide (cmpI x y < 0) = decide (x < y) := by
  unfold cmpI
  by_cases h1 : x < y
  · rw [if_pos h1]; simp [h1]
  · rw [if_neg h1, if_pos (by omega)]; simp [h1]
set_option maxRecDepth 100000 in
set_option maxHeartbeats 4000000 in
theorem rless12_some (a b : List UInt8) (p q : Pth) (hp : parseP a = some p) (hq : parseP b = some q) (ha : a.length ≤ 9223372036854775807) (hb : b.length ≤ 9223372036854775807) (w : World) :
    Calls Tryz.prog 29 #[.string (str a), .string (str b)] w fun e w' => e = .returned (.bool (lessS a b)) ∧ Ext w w' := by
  have HC := Lib.hid (rparse12_any a ha w)
  have HC2 := Lib.hid (fun w' => rparse12_any b hb w')
  have HX := Lib.hid (show lessS a b = decide (thanP p q < 0) by unfold lessS; rw [hp, hq])
  have hlp := parse_steps hp
  have hlq := parse_steps hq
  have HP := Lib.hid hp
  have HQ := Lib.hid hq
  clear hp hq
  go_enter Tryz.func29, Tryz.ntmps29
  go_wp2_with fail
  refine HC.out.mono ?_
  intro e w1 hpo
  obtain ⟨v, rfl, hE1, a1, m1, c1, rfl, hO, -⟩ := PathPost.path hpo
  rw [pthOr_some HP.out] at hO ⊢
  rw [show (parseP a).isSome = true by rw [HP.out]; rfl]
  obtain ⟨rfl, hb1, hb2⟩ := ownSt_bounds hO
  have hE2 := hE1.alloc (.cells #[.int .i64 p.flow, .slice a1 p.steps.length c1] 58)
  have HB := Lib.hid (BoxL.new w1 [.int .i64 p.flow, .slice a1 p.steps.length c1] 58)
  have HR := Lib.hid (hO.ext ((Ext.refl w1).alloc (.cells #[.int .i64 p.flow, .slice a1 p.steps.length c1] 58))).row
  have HE2 := Lib.hid hE2
  clear hpo hO hE1 hE2 HC
  go_upto_region 2 with (fail)
  generalize w1.alloc (.cells #[.int .i64 p.flow, .slice a1 p.steps.length c1] 58) = W2 at *
  generalize w1.heap.size = P at *
  go_wp2_with fail
  refine (HC2.out W2).mono ?_
  intro e w3 hpo
  obtain ⟨v, rfl, hE3, a2, m2, c2, rfl, hO, -⟩ := PathPost.path hpo
  rw [pthOr_some HQ.out] at hO ⊢
  rw [show (parseP b).isSome = true by rw [HQ.out]; rfl]
  obtain ⟨rfl, hb3, hb4⟩ := ownSt_bounds hO
  have hE4 := hE3.alloc (.cells #[.int .i64 q.flow, .slice a2 q.steps.length c2] 58)
  have HB2 := Lib.hid (BoxL.new w3 [.int .i64 q.flow, .slice a2 q.steps.length c2] 58)
  have HB1 := Lib.hid (HB.out.ext hE4)
  have HR2 := Lib.hid (hO.ext ((Ext.refl w3).alloc (.cells #[.int .i64 q.flow, .slice a2 q.steps.length c2] 58))).row
  have HR1 := Lib.hid (HR.out.ext hE4)
  have HE4 := Lib.hid (HE2.out.trans hE4)
  clear hpo hO hE3 hE4 HC2 HE2 HB HR
  go_upto_region 3 with (fail)
  generalize w3.alloc (.cells #[.int .i64 q.flow, .slice a2 q.steps.length c2] 58) = W4 at *
  generalize w3.heap.size = Q at *
  have p0 := HB1.out.cell 0 _ rfl
  have p1 := HB1.out.cell 1 _ rfl
  have q0 := HB2.out.cell 0 _ rfl
  have q1 := HB2.out.cell 1 _ rfl
  have HT := Lib.hid (show thanP p q = orI (cmpI p.flow q.flow) (cmpL p.steps q.steps) from rfl)
  obtain ⟨fp, ps⟩ := p
  obtain ⟨fq, qs⟩ := q
  simp only at p0 p1 q0 q1 hlp hlq hb1 hb2 hb3 hb4
  have HT := Lib.hid (show lessS a b = decide (orI (cmpI fp fq) (cmpL ps qs) < 0) by rw [HX.out, HT.out])
  have HR1 := Lib.hid (show stpE.Row W4 ps (.slice a1 ps.length c1) from HR1.out)
  have HR2 := Lib.hid (show stpE.Row W4 qs (.slice a2 qs.length c2) from HR2.out)
  have HB1 := Lib.hid (show BoxL W4 P [.int .i64 fp, .slice a1 ps.length c1] from HB1.out)
  have HB2 := Lib.hid (show BoxL W4 Q [.int .i64 fq, .slice a2 qs.length c2] from HB2.out)
  clear HX HP HQ
  by_cases hf : fp = fq
  case neg =>
    have hn : (fp != fq) = true := by simp [hf]
    have HK := Lib.hid (show lessS a b = decide (fp < fq) by
      rw [HT.out]
      obtain ⟨h1, h2⟩ := cmpI_ne hf
      unfold orI; rw [if_neg h1]; exact h2)
    clear hf HT HR1 HR2
    go_wp2
    go_ret
    exact ⟨by rw [HK.out]; rfl, HE4.out⟩
  have hn : (fp != fq) = false := by simp [hf]
  have HT := Lib.hid (show lessS a b = decide (cmpL (ps.drop 0) (qs.drop 0) < 0) by
    rw [HT.out, hf]; unfold orI; rw [if_pos (cmpI_good.self _)]; rfl)
  clear hf
  go_wp2_with fail
  clear p0 p1 q0 q1
  go_loopw [9, 10, 11] (fun i _ _ wr => ∃ k : Nat, k ≤ 400 ∧ k ≤ ps.length ∧ i = .int .i64 k ∧ Hid (lessS a b = decide (cmpL (ps.drop k) (qs.drop k) < 0)) ∧ Hid (Ext W4 wr)) (fun i _ _ _ => 500 - (intOf i).toNat)
  case atStart => exact ⟨0, by omega, by omega, rfl, HT, Lib.hid (Ext.refl W4)⟩
  case round =>
    clear HT
    obtain ⟨k, hk, hkl, rfl, HT, HEk⟩ := hrel
    have HKL := Lib.hid hkl
    have p1 := (HB1.out.ext HEk.out).cell 1 _ rfl
    have q1 := (HB2.out.ext HEk.out).cell 1 _ rfl
    by_cases h1 : k < ps.length
    case neg =>
      have hpk : k ≥ ps.length := by omega
      have HK := Lib.hid (show lessS a b = decide (ps.length < qs.length) by
        have := HKL.out
        rw [HT.out, List.drop_eq_nil_of_le hpk]
        by_cases h2 : k < qs.length
        · rw [List.drop_eq_getElem_cons h2]
          simp only [cmpL]
          simp; omega
        · rw [List.drop_eq_nil_of_le (by omega)]
          simp only [cmpL]
          simp; omega)
      have HE := Lib.hid (HE4.out.trans HEk.out)
      clear HT hpk
      go_wp2
      go_ret
      exact ⟨by rw [HK.out]; rfl, HE.out⟩
    by_cases h2 : k < qs.length
    case neg =>
      have hqk : k ≥ qs.length := by omega
      have HK := Lib.hid (show lessS a b = decide (ps.length < qs.length) by
        rw [HT.out, List.drop_eq_nil_of_le hqk, List.drop_eq_getElem_cons h1]
        simp only [cmpL]
        simp; omega)
      have HE := Lib.hid (HE4.out.trans HEk.out)
      clear HT hqk
      go_wp2
      go_ret
      exact ⟨by rw [HK.out]; rfl, HE.out⟩
    have hz1 := HB1.out.lt
    have hz2 := HB2.out.lt
    obtain ⟨b1, o1, rfl, hbb1, x0, x1, hs1⟩ := stp_at HR1.out (Ext.refl W4) k h1
    obtain ⟨b2, o2, rfl, hbb2, y0, y1, hs2⟩ := stp_at HR2.out (Ext.refl W4) k h2
    have HS := Lib.hid (cmpL_lt h1 h2)
    have HT2 := Lib.hid (show lessS a b = decide (orI (cmpS ps[k] qs[k]) (cmpL (ps.drop (k + 1)) (qs.drop (k + 1))) < 0) by rw [HT.out, HS.out])
    generalize ps[k] = x at *
    generalize qs[k] = y at *
    obtain ⟨nx, px⟩ := x
    obtain ⟨ny, py⟩ := y
    simp only at x0 x1 y0 y1
    have HC : Hid (∀ w', Ext wr w' → (w'.cell? ⟨P, 1, none⟩ = some (.slice (some ⟨b1, o1, none⟩) ps.length c1) ∧ w'.cell? ⟨Q, 1, none⟩ = some (.slice (some ⟨b2, o2, none⟩) qs.length c2) ∧ w'.cell? ⟨b1, o1 + k * 2, none⟩ = some (.string (str nx)) ∧ w'.cell? ⟨b1, o1 + k * 2 + 1, none⟩ = some (.int .i64 px) ∧ w'.cell? ⟨b2, o2 + k * 2, none⟩ = some (.string (str ny)) ∧ w'.cell? ⟨b2, o2 + k * 2 + 1, none⟩ = some (.int .i64 py))) := Lib.hid (fun w' h =>
      have h := HEk.out.trans h
      ⟨(HB1.out.ext h).cell 1 _ rfl, (HB2.out.ext h).cell 1 _ rfl, (h.cell (p := ⟨b1, _, none⟩) hbb1).trans x0, (h.cell (p := ⟨b1, _, none⟩) hbb1).trans x1, (h.cell (p := ⟨b2, _, none⟩) hbb2).trans y0, (h.cell (p := ⟨b2, _, none⟩) hbb2).trans y1⟩)
    clear x0 x1 y0 y1 hs1 hs2 HT HS hbb1 hbb2 hz1 hz2
    go_upto_region 10 with (fail)
    clear p1 q1
    go_cut [10, 11] from 38 to 81 (fun p q w' => ∃ X1 X2 : Nat, p = .pointer (some ⟨X1, 0, none⟩) ∧ q = .pointer (some ⟨X2, 0, none⟩) ∧ Hid (Ext wr w' ∧ BoxL w' X1 [.string (str nx), .int .i64 px] ∧ BoxL w' X2 [.string (str ny), .int .i64 py]))
    case first =>
      go_region_held3 (fun w' => w'.cell? ⟨P, 1, none⟩ = some (.slice (some ⟨b1, o1, none⟩) ps.length c1) ∧ w'.cell? ⟨Q, 1, none⟩ = some (.slice (some ⟨b2, o2, none⟩) qs.length c2) ∧ w'.cell? ⟨b1, o1 + k * 2, none⟩ = some (.string (str nx)) ∧ w'.cell? ⟨b1, o1 + k * 2 + 1, none⟩ = some (.int .i64 px) ∧ w'.cell? ⟨b2, o2 + k * 2, none⟩ = some (.string (str ny)) ∧ w'.cell? ⟨b2, o2 + k * 2 + 1, none⟩ = some (.int .i64 py))
        ((refine HC.out _ ?_; repeat (first | exact Ext.refl _ | refine Ext.drew ?_ | refine Ext.alloc ?_ _ | refine Ext.setCell ?_ (by simp) _)))
        (fail)
      all_goals go_wp2_with fail
      all_goals go_meet
      all_goals (case rel =>
        first
          | exact ⟨_, _, rfl, rfl, Lib.hid ⟨(((Ext.refl wr).alloc _).alloc _).drew, BoxL.ext (BoxL.new wr _ 79) ((Ext.refl _).alloc _).drew, by
              have := BoxL.new (wr.alloc (.cells #[.string (str nx), .int .i64 px] 79)) [.string (str ny), .int .i64 py] 79
              rw [show (wr.alloc (.cells #[.string (str nx), .int .i64 px] 79)).heap.size = wr.heap.size + 1 by simp] at this
              exact this.ext (Ext.refl _).drew⟩⟩
          | exact ⟨_, _, rfl, rfl, Lib.hid ⟨(((Ext.refl wr).alloc _).alloc _).drew, by
              have := BoxL.new (wr.alloc (.cells #[.string (str ny), .int .i64 py] 79)) [.string (str nx), .int .i64 px] 79
              rw [show (wr.alloc (.cells #[.string (str ny), .int .i64 py] 79)).heap.size = wr.heap.size + 1 by simp] at this
              exact this.ext (Ext.refl _).drew, BoxL.ext (BoxL.new wr _ 79) ((Ext.refl _).alloc _).drew⟩⟩)
    case rest =>
    obtain ⟨X1, X2, rfl, rfl, HCut⟩ := hcut
    have p0 := HCut.out.2.1.cell 0 _ rfl
    have p1 := HCut.out.2.1.cell 1 _ rfl
    have q0 := HCut.out.2.2.cell 0 _ rfl
    have q1 := HCut.out.2.2.cell 1 _ rfl
    have HEc := Lib.hid (HEk.out.trans HCut.out.1)
    have HE := Lib.hid (HE4.out.trans HEc.out)
    have es : ((str nx).toList == (str ny).toList) = decide (nx = ny) := str_beq _ _
    have el := bytesLt nx ny
    clear HC HCut
    by_cases hn : nx = ny
    case neg =>
      have f0 : ((str nx).toList == (str ny).toList) = false := by rw [es]; simpa using hn
      have HK := Lib.hid (show lessS a b = Op.bytesLess (str nx).toList (str ny).toList by
        rw [HT2.out, el]
        obtain ⟨h1, h2⟩ := cmpB_ne hn
        have h3 : cmpS ⟨nx, px⟩ ⟨ny, py⟩ = cmpB nx ny := by unfold cmpS orI; rw [if_neg h1]
        rw [h3]
        unfold orI
        rw [if_neg h1, h2])
      clear es hn HT2 el
      go_wp2
      go_ret
      exact ⟨by rw [HK.out]; rfl, HE.out⟩
    subst hn
    have f0 : ((str nx).toList == (str nx).toList) = true := by rw [es]; simp
    have h3 : cmpS ⟨nx, px⟩ ⟨nx, py⟩ = cmpI px py := by unfold cmpS orI; rw [if_pos (cmpB_good.self nx)]
    have HT3 := Lib.hid (show lessS a b = decide (orI (cmpI px py) (cmpL (ps.drop (k + 1)) (qs.drop (k + 1))) < 0) by rw [HT2.out, h3])
    clear es HT2 el h3
    by_cases hpp : px = py
    case neg =>
      have hn : (px != py) = true := by simp [hpp]
      have HK := Lib.hid (show lessS a b = decide (px < py) by
        rw [HT3.out]
        obtain ⟨h1, h2⟩ := cmpI_ne hpp
        unfold orI; rw [if_neg h1]; exact h2)
      clear hpp HT3
      go_wp2
      go_ret
      exact ⟨by rw [HK.out]; rfl, HE.out⟩
    have hn : (px != py) = false := by simp [hpp]
    have HK := Lib.hid (show lessS a b = decide (cmpL (ps.drop (k + 1)) (qs.drop (k + 1)) < 0) by
      rw [HT3.out, hpp]; unfold orI; rw [if_pos (cmpI_good.self _)])
    clear hpp HT3
    go_wp2_with fail
    go_roundw
    case rel => exact ⟨k + 1, by omega, by omega, by go_num, HK, HEc⟩
    case measure => simp [intOf]; omega
set_option maxRecDepth 100000 in
set_option maxHeartbeats 4000000 in
theorem rless12_none (a b : List UInt8) (h : parseP a = none ∨ parseP b = none) (ha : a.length ≤ 9223372036854775807) (hb : b.length ≤ 9223372036854775807) (w : World) :
    Calls Tryz.prog 29 #[.string (str a), .string (str b)] w fun e w' => e = .returned (.bool (lessS a b)) ∧ Ext w w' := by
  have HC := Lib.hid (rparse12_any a ha w)
  have HC2 := Lib.hid (fun w' => rparse12_any b hb w')
  have HX := Lib.hid (show lessS a b = false by
    unfold lessS
    rcases h with h | h
    · rw [h]
    · rw [h]
      cases parseP a <;> rfl)
  have hc : ((parseP a).isSome = false) ∨ ((parseP a).isSome = true ∧ (parseP b).isSome = false) := by
    rcases h with h | h
    · left; rw [h]; rfl
    · cases ha : parseP a with
      | none => left; rfl
      | some _ => right; rw [h]; exact ⟨rfl, rfl⟩
  clear h
  go_enter Tryz.func29, Tryz.ntmps29
  go_wp2_with fail
  refine HC.out.mono ?_
  intro e w1 hpo
  obtain ⟨v, rfl, hE1, a1, m1, c1, rfl, -, -⟩ := PathPost.path hpo
  have HE2 := Lib.hid (hE1.alloc (.cells #[.int .i64 (pthOr a).flow, .slice a1 m1 c1] 58))
  clear hpo hE1 HC
  go_upto_region 2 with (fail)
  generalize w1.alloc (.cells #[.int .i64 (pthOr a).flow, .slice a1 m1 c1] 58) = W2 at *
  go_wp2_with fail
  refine (HC2.out W2).mono ?_
  intro e w3 hpo
  obtain ⟨v, rfl, hE3, a2, m2, c2, rfl, -, -⟩ := PathPost.path hpo
  have HE4 := Lib.hid (HE2.out.trans (hE3.alloc (.cells #[.int .i64 (pthOr b).flow, .slice a2 m2 c2] 58)))
  clear hpo hE3 HC2 HE2
  rcases hc with hc | ⟨hc, hc2⟩
  · rw [hc]
    clear hc
    go_wp2
    go_ret
    exact ⟨by rw [HX.out]; rfl, HE4.out⟩
  · rw [hc, hc2]
    clear hc hc2
    go_wp2
    go_ret
    exact ⟨by rw [HX.out]; rfl, HE4.out⟩
theorem rless12_any (a b : List UInt8) (ha : a.length ≤ 9223372036854775807) (hb : b.length ≤ 9223372036854775807) (w : World) :
    Calls Tryz.prog 29 #[.string (str a), .string (str b)] w fun e w' => e = .returned (.bool (lessS a b)) ∧ Ext w w' := by
  cases hp : parseP a with
  | none => exact rless12_none a b (.inl hp) ha hb w
  | some p =>
    cases hq : parseP b with
    | none => exact rless12_none a b (.inr hq) ha hb w
    | some q => exact rless12_some a b p q hp hq ha hb w
end Go.Proofs.YtbciamploeejiaaGreatDoor

namespace Go.Proofs.YtbciamploeejiaaGreatDoor
open Go Go.Proofs Fm Go.RowKit

/-- Block b is a map of texts to numbers: what stands where, and how many there are (at most n). -/
def SMap (w : World) (b n : Nat) (f : List UInt8 → Option Int) (sz : Nat) : Prop :=
  ∃ D : DataW Unit, w.ownsMap Tryz.prog 9 (plainElem Tryz.prog 3) b n D ∧ Maps.size D = sz ∧ (∀ s, Maps.has D (.string s) = (f s).isSome) ∧ ∀ s, D.atKey (.string s) (.lit (.int .i64 0)) = .lit (.int .i64 ((f s).getD 0))
theorem SMap.new (w : World) : SMap (w.alloc (.map #[] 0)) w.heap.size 0 (fun _ => none) 0 :=
  ⟨.map [], World.ownsMap_made w _ _ _, rfl, fun _ => rfl, fun _ => rfl⟩
theorem SMap.kept {w w' : World} {b n : Nat} {f : List UInt8 → Option Int} {sz : Nat} {row : Option Nat} (h : SMap w b n f sz) (hg : w.grownBy w' row) (hne : row ≠ some b) : SMap w' b n f sz := by
  obtain ⟨D, h1, h2⟩ := h
  exact ⟨D, h1.kept hg (fun e => hne e.symm), h2⟩
theorem SMap.ext {w w' : World} {b n : Nat} {f : List UInt8 → Option Int} {sz : Nat} (h : SMap w b n f sz) (hE : Ext w w') : SMap w' b n f sz := h.kept hE.grownBy (by simp)
theorem SMap.lt {w : World} {b n : Nat} {f : List UInt8 → Option Int} {sz : Nat} (h : SMap w b n f sz) : b < w.heap.size := by
  obtain ⟨D, h1, _⟩ := h
  exact h1.lt
end Go.Proofs.YtbciamploeejiaaGreatDoor

open Go.RowKit Go.Shelf
namespace Go.Proofs.YtbciamploeejiaaGreatDoor
open Go Go.Proofs Fm

attribute [local go_sem] Oper.semAt_some
/-- How many have a name. -/
def nmC (l : List It) (s : List UInt8) : Nat := (l.filter (fun x => decide (x.name = s))).length
end Go.Proofs.YtbciamploeejiaaGreatDoor

namespace Fm
open Go Go.RowKit

/-- Numbers that stay, whatever becomes of that block. -/
def FarI (w : World) (row : Option Nat) (l : List Int) (v : Value) : Prop := ∀ w', w.grownBy w' row → intE.Row w' l v
theorem FarI.row {w : World} {row : Option Nat} {l : List Int} {v : Value} (h : FarI w row l v) : intE.Row w l v := h w (grown_ext (Ext.refl w) row)
theorem FarI.then {w w' : World} {row row' : Option Nat} {l : List Int} {v : Value} (h : FarI w row l v) (hg : w.grownBy w' row) (hr : row' = row ∨ ∃ g, row' = some g ∧ w.heap.size ≤ g) : FarI w' row' l v := fun w'' hg' => h w'' (grown_row hg hg' hr)
theorem FarI.ext {w w' : World} {row : Option Nat} {l : List Int} {v : Value} (h : FarI w row l v) (hE : Ext w w') : FarI w' row l v := h.then (grown_ext hE row) (.inl rfl)
end Fm
namespace Fm
open Go Go.RowKit
/-! ### instances done one by one -/
end Fm
namespace Fm
open Go Go.RowKit
end Fm

open Go.RowKit Go.Shelf
namespace Fm
open Go Go.RowKit
end Fm
namespace Go.Proofs.YtbciamploeejiaaGreatDoor
open Go Go.Proofs Fm
attribute [local go_sem] Oper.semAt_some

theorem natsI_i64 {l : List Nat} {n : Nat} (h : ∀ i, i ∈ l → i < n) (hn : n ≤ 1000000) : ∀ x, x ∈ natsI l → isI64 x := by
  intro x hx
  obtain ⟨i, hi, rfl⟩ := List.mem_map.1 hx
  have := h i hi
  unfold isI64
  omega
end Go.Proofs.YtbciamploeejiaaGreatDoor

open Go.RowKit Go.Shelf
namespace Fm
open Go Go.RowKit
def flC (f o : Int) : List Value := [.string { data := #[] }, .string { data := #[] }, .int .u8 0, .int .i64 f, .int .i64 o, .int .i64 0, .slice none 0 0, .int .i64 0, .int .i64 0, .int .u8 0, .int .i64 0, .int .i64 0, .int .u8 0, .int .i64 0, .string { data := #[] }, .slice none 0 0]
theorem zT_liesF (W : World) : Lies W zT (.agg #[.int .u8 0, .int .i64 0, .string { data := #[] }, .slice none 0 0]) := (OwnT.mk (e := 0) (base := 0) (n := 0) (k := 0) (s := []) (by unfold isI64; omega) (by simp) (OwnL.nil _ _ _)).lies
theorem ndFl_v {f o : Int} (hf : isI64 f) (ho : isI64 o) (W : World) : NdV W (ndFl f o) (.agg (flC f o).toArray) := by
  have z : isI64 0 := by unfold isI64; omega
  exact ⟨none, 0, 0, .int .u8 0, .int .i64 0, .string { data := #[] }, .slice none 0 0, rfl, Elem.Row.void _ _ _, zT_liesF W, by simp [ndFl], by simp [ndFl], hf, ho, z, z, z, z, z⟩
end Fm
namespace Go.Proofs.YtbciamploeejiaaGreatDoor
open Go Go.Proofs Fm
attribute [local go_sem] Oper.semAt_some

theorem sizeof_intC : ∀ w, (sizeOf (Tryz.prog.elem 22)).run Tryz.prog w = .ok 1 w := fun _ => by kernel_rfl
theorem slice_int_to (a : Option Addr) (len cap k : Nat) (h1 : k ≤ cap) (w : World) :
    (Instr.slice 22 (.slice a len cap) none (some (.int .i64 (k : Int))) none).run Tryz.prog w = .ok (.slice a k cap) w := by
  rw [run_slice_h (ht := by kernel_rfl) (h0 := by omega) (h2 := by omega), sizeof_intC]
  cases a <;> simp [Result.andThen, sliced, Addr.add]
theorem fill_nodesC {C : List Value} (hC : C.length = 16) (n : Nat) (hn : n = 16) (z : Value) (hz : z = .agg ndZ.toArray) :
    Instr.fill (fun i => some (i * n, n)) ((Array.range (1 * n)).map (z.cells[· % z.cells.size]!)) [(0, .agg C.toArray)] = some C.toArray := by
  subst hn hz
  obtain ⟨c0, c1, c2, c3, c4, c5, c6, c7, c8, c9, c10, c11, c12, c13, c14, c15, rfl⟩ := list_of16 hC
  kernel_rfl
/-- A slice of one node, whatever its cells. -/
theorem wpList_nodesC {ops : Array Oper} {rest : List Oper} {o : Oper} {a : Act} {w : World} {Q : Exit → Act → World → Prop} {C : List Value} (hg : Region.wanted o (yielded ops a.tmps) = true) (s1 : Operand) (ho : o.op = .buildSlice 23 1 #[(0, s1)])
    (h1 : a.eval s1 = .agg C.toArray) (hC : C.length = 16)
    (h : wpList Tryz.prog ops Q rest (a.put o.dst (.slice (some ⟨w.heap.size, 0, none⟩) 1 1)) (w.alloc (.cells C.toArray 38))) : wpList Tryz.prog ops Q (o :: rest) a w := by
  obtain ⟨i, i1, i2, i3, i4⟩ := info_parts infonode_F
  unfold wpList
  rw [if_pos hg]
  left
  refine wp_buildSlice 23 38 1 _ ho C.toArray i (.agg ndZ.toArray) Tryz.underlying23 i1 i2 (by rw [i3]; decide) (by rw [i3]; decide) ?_ h
  have e : (#[(0, s1)].map fun (x : Nat × Operand) => (x.1, a.eval x.2)).toList = [(0, .agg C.toArray)] := by simp [h1]
  exact (congrArg _ e).trans (fill_nodesC hC i.size i3 _ rfl)
end Go.Proofs.YtbciamploeejiaaGreatDoor

open Go.RowKit Go.Shelf
namespace Go.Proofs.YtbciamploeejiaaGreatDoor
open Go Go.Proofs Fm

end Go.Proofs.YtbciamploeejiaaGreatDoor

/- Walks: frag's reader: many texts. -/
open Go.RowKit Go.Shelf
namespace Go.Proofs.YtbciamploeejiaaGreatDoor
open Go Go.Proofs Fm

end Go.Proofs.YtbciamploeejiaaGreatDoor

/- Walks: frag's reader: an item. -/
open Go.RowKit Go.Shelf
namespace Go.Proofs.YtbciamploeejiaaGreatDoor
open Go Go.Proofs Fm

theorem _root_.Fm.OwnS.far {e : TypeId} {base : Nat} {w : World} {v : Value} {l : List (List UInt8)} (h : OwnS e base w v l) {B : Nat} (hB : B < base) (j : Nat) (u : Value) : OwnS e base (w.setCell ⟨B, j, none⟩ u) v l :=
  h.kept (setOne_grown w B j u) (fun b hb e => by injection e with e; have := (h.block b hb).1; omega)
end Go.Proofs.YtbciamploeejiaaGreatDoor

/- Walks: frag's reader: many items; Take, Parse. -/
open Go.RowKit Go.Shelf
namespace Go.Proofs.YtbciamploeejiaaGreatDoor
open Go Go.Proofs Fm

end Go.Proofs.YtbciamploeejiaaGreatDoor

open Go.RowKit Go.Shelf
namespace Go.Proofs.YtbciamploeejiaaGreatDoor
open Go Go.Proofs Fm

/-- Two operations may come up. -/
theorem ready_two {P : Program} {ops : Array Oper} {Q : Exit → Act → World → Prop} {md : Region.Mode} {S : World → Prop} (i j : Nat) {fuel : Nat} {listed : Array Bool} {a : Act} {w : World}
    (hi : ops[i]? = some (ops.getD i default)) (hj : ops[j]? = some (ops.getD j default)) (hr : Region.ready md ops listed = [i, j]) (hw : Region.wanted (ops.getD i default) (yielded ops a.tmps) = true) (hw' : Region.wanted (ops.getD j default) (yielded ops a.tmps) = true)
    (h : ∀ K' : Act → World → Prop, Shut (∀ a w, S w → (S w → wpAnyH P md ops Q S fuel (listed.setIfInBounds i true) a w) → K' a w) → Oper.wp P (ops.getD i default) a w K' Q)
    (h' : ∀ K' : Act → World → Prop, Shut (∀ a w, S w → (S w → wpAnyH P md ops Q S fuel (listed.setIfInBounds j true) a w) → K' a w) → Oper.wp P (ops.getD j default) a w K' Q) : wpAnyH P md ops Q S (fuel + 1) listed a w :=
  wpAnyH_ready hr (by simp) (AllReadyH.cons hi (fun K hK => by rw [if_pos hw]; exact h K hK) (AllReadyH.cons hj (fun K hK => by rw [if_pos hw']; exact h' K hK) AllReadyH.nil))

/-! ### plain -/
end Go.Proofs.YtbciamploeejiaaGreatDoor

namespace Go.Proofs.YtbciamploeejiaaGreatDoor
open Go Go.Proofs Fm Go.RowKit

/-- Block b is a map of numbers to numbers: what stands where, and how many there are (at most n). -/
def IMap (w : World) (b n : Nat) (f : Int → Option Int) (sz : Nat) : Prop :=
  ∃ D : DataW Unit, w.ownsMap Tryz.prog 3 (plainElem Tryz.prog 3) b n D ∧ Maps.size D = sz ∧ (∀ s, Maps.has D (.int .i64 s) = (f s).isSome) ∧ ∀ s, D.atKey (.int .i64 s) (.lit (.int .i64 0)) = .lit (.int .i64 ((f s).getD 0))
theorem IMap.new (w : World) : IMap (w.alloc (.map #[] 0)) w.heap.size 0 (fun _ => none) 0 :=
  ⟨.map [], World.ownsMap_made w _ _ _, rfl, fun _ => rfl, fun _ => rfl⟩
theorem IMap.kept {w w' : World} {b n : Nat} {f : Int → Option Int} {sz : Nat} {row : Option Nat} (h : IMap w b n f sz) (hg : w.grownBy w' row) (hne : row ≠ some b) : IMap w' b n f sz := by
  obtain ⟨D, h1, h2⟩ := h
  exact ⟨D, h1.kept hg (fun e => hne e.symm), h2⟩
theorem IMap.ext {w w' : World} {b n : Nat} {f : Int → Option Int} {sz : Nat} (h : IMap w b n f sz) (hE : Ext w w') : IMap w' b n f sz := h.kept hE.grownBy (by simp)
theorem IMap.lt {w : World} {b n : Nat} {f : Int → Option Int} {sz : Nat} (h : IMap w b n f sz) : b < w.heap.size := by
  obtain ⟨D, h1, _⟩ := h
  exact h1.lt
theorem IMap.len {w : World} {b n : Nat} {f : Int → Option Int} {sz : Nat} (h : IMap w b n f sz) (ty : TypeId) : (Builtin.len_ #[33] ty #[.map (some b)]).run Tryz.prog w = .ok (.int .i64 sz) w := by
  obtain ⟨D, h1, h2, _⟩ := h
  rw [h1.len Tryz.underlying33 ty, h2]
end Go.Proofs.YtbciamploeejiaaGreatDoor

namespace Fm
open Go Go.RowKit Go.ChangeShapes Go.WideShapes Go.ChangeAt

/-- What the reading of a slice of integers says: as the guide's skeleton has it. -/
def IsRow (k : IntKind) (w : World) (a : Option Addr) (len cap : Nat) (zs : List Int) : Prop :=
  (a = none ∧ len = 0 ∧ cap = 0 ∧ zs = []) ∨
  ∃ x, a = some x ∧ len ≤ cap ∧ cap ≤ maxLen ∧ zs.length = cap ∧ (∀ i, i < zs.length → w.cell? (x.add i) = some (.int k (zs.getD i 0))) ∧ ∀ n ∈ zs, (Lit.int k n).wf = true

theorem u8_of_wf {n : Int} (h : (Lit.int .u8 n).wf = true) : ((UInt8.ofNat n.toNat).toNat : Int) = n := by
  have : 0 ≤ n ∧ n ≤ 255 := by
    simp [Lit.wf, IntKind.min, IntKind.max, IntKind.signed, IntKind.bits] at h
    omega
  rw [toNat_ofNat_lt (by omega)]; omega

theorem i64_of_wf {n : Int} (h : (Lit.int .i64 n).wf = true) : isI64 n := by
  simp [Lit.wf, IntKind.min, IntKind.max, IntKind.signed, IntKind.bits] at h
  unfold isI64; omega

theorem IsRow.bytes {w : World} {a : Option Addr} {len cap : Nat} {zs : List Int} (h : IsRow .u8 w a len cap zs) :
    ∃ xs : List UInt8, xs.length = len ∧ Bytes w (.slice a len cap) xs := by
  rcases h with ⟨rfl, rfl, rfl, rfl⟩ | ⟨x, rfl, hl, hm, hz, hc, hw⟩
  · exact ⟨[], rfl, Bytes.nil w⟩
  · refine ⟨(zs.take len).map fun n => UInt8.ofNat n.toNat, by simp; omega, ?_⟩
    have hlen : ((zs.take len).map fun n => UInt8.ofNat n.toNat).length = len := by simp; omega
    refine ⟨some x, cap, by rw [hlen], by omega, hm, (fun h => by cases h), fun ad had h0 => ?_⟩
    cases had
    have h00 := hc 0 (by omega)
    have e0 : x.add 0 = x := by unfold Addr.add; rw [if_pos rfl]
    rw [e0] at h00
    have hs : x.spot = none := by
      cases hsp : x.spot with
      | none => rfl
      | some s =>
        unfold World.cell? at h00
        cases hb : w.heap[x.block]? with
        | none => rw [hb] at h00; cases h00
        | some o => rw [hb] at h00; cases o <;> simp [hsp] at h00
    refine ⟨hs, World.block_lt_of_cell? w x h00, fun j hj => ?_⟩
    have hj' : j < zs.length := by omega
    have hjl : j < len := by omega
    have hcj := hc j hj'
    have ea : x.add j = ⟨x.block, x.off + j, none⟩ := by
      unfold Addr.add; split
      · obtain ⟨b, o, s⟩ := x; simp at hs ⊢; exact ⟨by omega, hs⟩
      · rw [← hs]
    rw [ea] at hcj
    rw [hcj]
    have hg : zs.getD j 0 = zs[j] := by simp [List.getD, hj']
    have hwf := hw zs[j] (List.getElem_mem hj')
    rw [hg]
    simp [bv, hjl, hj']
    have := u8_of_wf hwf
    simp at this
    exact this.symm
end Fm

namespace Fm
open Go Go.RowKit Go.ChangeShapes Go.WideShapes Go.ChangeAt

/-- What reads as data of that type lies so. -/
def Elem.Reads {α : Type} (E : Elem α) (P : Program) (T : TypeId) : Prop :=
  ∀ {H : Type} (enc : TypeId × Value → H) (W : World) (base : Nat) (spare : Nat → Bool) (held : Bool) (fuel : Nat) (cs : List Value) (x : DataW H × List MemPlace),
    DataW.trod enc P W base spare held fuel T cs = some x → ∃ a : α, E.R W a (fun j => cs.getD j .nilFunc)
theorem reads_int {P : Program} {T : TypeId} (hT : P.underlying T = some (.int .i64)) : intE.Reads P T := by
  intro H enc W base spare held fuel cs x h
  obtain ⟨n, rfl, -, hw⟩ := DataW.trod_int hT h
  exact ⟨n, rfl, i64_of_wf hw⟩
theorem reads_slice {α : Type} {E : Elem α} {P : Program} {T e : TypeId} (hT : P.underlying T = some (.slice e)) (hsz : P.cellsOf e = E.sz) (hE : E.Reads P e) (hp : 0 < E.sz) : (rowE E).Reads P T := by
  intro H enc W base spare held fuel cs x h
  rcases DataW.trod_slice hT h with ⟨rfl, -⟩ | ⟨a, len, cap, elems, rest, m, hm, rfl, -, hba, hlc, hcm, hel, hat, -, -⟩
  · exact ⟨[], Elem.Row.void E W none⟩
  · have key : ∀ k, k ≤ len → ∃ l : List α, l.length = k ∧ ∀ i (hi : i < l.length), ∃ c : Nat → Value, E.R W l[i] c ∧ ∀ j, j < E.sz → W.cell? ((a.add (i * E.sz)).add j) = some (c j) := by
      intro k
      induction k with
      | zero => exact fun _ => ⟨[], rfl, fun i hi => by simp at hi⟩
      | succ k ih =>
        intro hk
        obtain ⟨l, hl, hr⟩ := ih (by omega)
        have h1 := hat k (by omega)
        rw [hsz, List.getElem?_eq_getElem (by omega)] at h1
        obtain ⟨cs', hc', ht'⟩ := Option.bind_eq_some_iff.1 h1
        obtain ⟨t, ht⟩ := hE enc W base spare held m cs' _ ht'
        obtain ⟨_, hl4, hcell⟩ := World.cells?_some hc'
        refine ⟨l ++ [t], by simp [hl], fun i hi => ?_⟩
        by_cases hik : i < l.length
        · rw [List.getElem_append_left hik]; exact hr i hik
        · have e : i = l.length := by simp at hi; omega
          subst e
          rw [List.getElem_append_right (by omega)]
          simp only [Nat.sub_self, List.getElem_cons_zero]
          refine ⟨_, ht, fun j hj => ?_⟩
          rw [hl, hcell j hj, List.getD_eq_getElem?_getD, List.getElem?_eq_getElem (by omega)]
          rfl
    obtain ⟨l, hl, hr⟩ := key len (Nat.le_refl _)
    refine ⟨l, ?_⟩
    show E.Row W l (.slice (some a) len cap)
    by_cases h0 : len = 0
    · have : l = [] := List.eq_nil_of_length_eq_zero (by omega)
      subst this h0
      exact ⟨some a, cap, rfl, by simp, hcm, (fun h => by cases h), fun _ _ => .nilFunc, fun h => by simp at h, fun i hi => by simp at hi⟩
    · obtain ⟨c, _, h00⟩ := hr 0 (by omega)
      have h00 := h00 0 hp
      rw [Nat.zero_mul] at h00
      have ea : (a.add 0).add 0 = a := by unfold Addr.add; rw [if_pos rfl, if_pos rfl]
      rw [ea] at h00
      have hs0 : a.spot = none := by
        cases hsp : a.spot with
        | none => rfl
        | some s =>
          unfold World.cell? at h00
          cases hb : W.heap[a.block]? with
          | none => rw [hb] at h00; cases h00
          | some o => rw [hb] at h00; cases o <;> simp [hsp] at h00
      obtain ⟨b, off, spot⟩ := a
      simp only at hs0
      subst hs0
      refine Elem.Row.mk hl.symm (by omega) hcm (World.block_lt_of_cell? W _ h00) (fun i hi => ?_)
      obtain ⟨c, h1, h2⟩ := hr i hi
      refine ⟨c, h1, fun j hj => ?_⟩
      have := h2 j hj
      rw [Addr.add_lit, Addr.add_lit, Nat.add_assoc] at this
      exact this
/-- A slice that is handed in. -/
theorem row_of_val {α : Type} {E : Elem α} {P : Program} {T e : TypeId} (hT : P.underlying T = some (.slice e)) (hR : (rowE E).Reads P T)
    {H : Type} {enc : TypeId × Value → H} {W : World} {r : Reach} {b0 base : Nat} {spare : Nat → Bool} {held : Bool} {v : Value} {d : DataW H} {p : List MemPlace} (hv : Value.okWide P W r b0 T v)
    (h : DataW.Trod enc P W base spare held T v d p) : ∃ l, E.Row W l v := by
  obtain ⟨b, n, c, rfl⟩ := okWide_slice hT hv
  obtain ⟨fuel, hf⟩ := h
  obtain ⟨l, hl⟩ := hR enc W base spare held fuel _ _ hf
  exact ⟨l, hl⟩
end Fm

open Go.RowKit Go.Shelf
namespace Fm
open Go Go.RowKit
end Fm
namespace Go.Proofs.YtbciamploeejiaaGreatDoor
open Go Go.Proofs Fm
attribute [local go_sem] Oper.semAt_some

/-- Numbers of one's own as what is appended. -/
theorem src_ints {w : World} {base : Nat} {v : Value} {l : List Int} (h : OwnN 3 base w v l) : Src Tryz.prog 1 22 v l.length (l.map (.int .i64)) w := by
  have hone : ∀ u, u ∈ l.map (Value.int .i64) → u.oneCell' = true := fun u hu => by
    obtain ⟨x, _, rfl⟩ := List.mem_map.1 hu
    rfl
  have hc := fun g => World.ownsRow.cells h (g := g)
  have hl := h.1
  rcases h.2 with ⟨rfl, h0⟩ | ⟨g, cap, cur, rfl, -⟩
  · have : l.map (Value.int .i64) = [] := List.eq_nil_of_length_eq_zero (by omega)
    rw [this, h0]
    exact Src.ofNil w Tryz.underlying22 0
  · exact Src.ofSlice w Tryz.underlying22 _ _ _ _ hl (fun j u hu => hc g rfl j u hu) hone
end Go.Proofs.YtbciamploeejiaaGreatDoor

open Go.RowKit Go.Shelf
namespace Go.Proofs.YtbciamploeejiaaGreatDoor
open Go Go.Proofs Fm
attribute [local go_sem] Oper.semAt_some

set_option maxRecDepth 100000 in
set_option maxHeartbeats 4000000 in
/-- A place's owners, from the reference. -/
theorem rchain16_at (l : List Nd) (hO : RightO l) (hl : l.length ≤ 1000000) (w0 : World) (v : Value) (h : ndE.Row w0 l v) : ∀ (p : Nat) (_ : p < l.length) (w : World) (_ : Ext w0 w),
    Calls Tryz.prog 46 #[v, .int .i64 p] w fun e w' => ∃ v', e = .returned v' ∧ OwnN 3 w.heap.size w' v' (natsI (chainO l p)) ∧ Ext w w' := by
  intro p
  induction p using Nat.strongRecOn with
  | ind p ih =>
    intro hp w hE
    have h1 := hO p hp
    obtain ⟨a, c, rfl, hc1, hc2⟩ := h.slice
    obtain ⟨g, off, rfl, hb, aa, ma, ca, k0, n0, s0, d0, ⟨x0, x1, x2, x3, x4, x5, x6, x7, x8, x9, x10, x11, x12, x13, x14, x15⟩, hnv⟩ := nd_at16 h hE p hp
    have hp0 : (0 : Int) ≤ (p : Int) := by omega
    have hp1 : (p : Int) < (l.length : Int) := by omega
    obtain ⟨no, hno⟩ : ∃ no, no = l[p].owner := ⟨_, rfl⟩
    rw [← hno] at x4
    by_cases h0 : 0 ≤ l[p].owner
    · obtain ⟨o, ho⟩ : ∃ o : Nat, l[p].owner = (o : Int) := ⟨l[p].owner.toNat, by omega⟩
      have IH := Lib.hid (fun X (hX : Ext w X) => ih o (by omega) (by omega) X (hE.trans hX))
      have HC := Lib.hid (show natsI (chainO l p) = (o : Int) :: natsI (chainO l o) by rw [chainO_some hO hp ho]; rfl)
      have hcl : (natsI (chainO l o)).length ≤ 1000000 := by rw [natsI_len]; have := chainO_len hO o (by omega); omega
      rw [hno, ho] at x4
      have ho0 : (0 : Int) ≤ (o : Int) := by omega
      have HD := Lib.hid (Ext.refl w).drew
      have hgw : g < w.heap.size := Nat.lt_of_lt_of_le hb hE.size
      have HS : Hid (∀ w', Ext w w' → w'.cell? ⟨g, off + p * 16 + 4, none⟩ = some (.int .i64 o)) := Lib.hid (fun w' hw => (hw.cell (p := ⟨g, off + p * 16 + 4, none⟩) (Nat.lt_of_lt_of_le hb hE.size)).trans x4)
      have HLt : Hid (∀ Y X, Ext w Y → Ext (Y.alloc (.cells #[.int .i64 (o : Int)] 3)) X → X.ownsRow w.heap.size 3 1 (.slice (some ⟨Y.heap.size, 0, none⟩) 1 1) 1 [.int .i64 o]) := Lib.hid (fun Y X hY hX => hX.own (World.ownsRow_lit Y #[.int .i64 (o : Int)] 1 hY.size (by unfold maxLen; omega) rfl))
      clear x0 x1 x2 x3 x5 x6 x7 x8 x9 x10 x11 x12 x13 x14 x15 hnv hno h0 ho h1 h hE ih
      go_enter Tryz.func46, Tryz.ntmps46
      go_upto_region 3 with (fail)
      go_region_law (first
        | (refine step_appendS rfl _ _ 22 (by rfl) elemint_F w.heap.size _ 1 _ (by rfl) (by first | exact HLt.out _ _ (Ext.refl _) HE4.out | exact HLt.out _ _ (Ext.refl _) ((Ext.refl _).drew.trans HE4.out) | exact HLt.out _ _ HD.out HE4.out | exact HLt.out _ _ HF4.out (Ext.refl _) | exact HLt.out _ _ HF4.out (Ext.refl _).drew) _ _ _ (by rfl) (by first | exact src_ints HC4.out | exact src_ints (HC4.out.ext ((Ext.refl _).alloc _)) | exact src_ints (HC4.out.ext ((Ext.refl _).alloc _).drew)) (by unfold maxLen; omega) (by omega) (by first | exact HF4.out.size | exact ((HF4.out.alloc _).size)) ?_
           intro A5 C5 w5 hown5 hgrow5 _)
        | (go_simp
           go_at_call 46
           refine (IH.out _ ?_).mono ?_
           · first | exact Ext.refl _ | exact (Ext.refl _).drew | exact (Ext.refl _).alloc _ | exact (Ext.refl _).drew.alloc _ | exact ((Ext.refl _).alloc _).drew
           rintro e w4 ⟨v4, rfl, hC4, hE4⟩
           have HC4 := Lib.hid hC4
           have HE4 := Lib.hid hE4
           have HF4 : Hid (Ext w w4) := Lib.hid (Ext.trans (by first | exact Ext.refl _ | exact (Ext.refl _).drew | exact (Ext.refl _).alloc _ | exact (Ext.refl _).drew.alloc _ | exact ((Ext.refl _).alloc _).drew) hE4)
           obtain ⟨A4, C4, rfl⟩ := ownsRow_sl hC4
           have x5 := HS.out _ HF4.out
           clear hC4 hE4))
      all_goals
        have hsz := HF4.out.size
        have HE5 := Lib.hid (show Ext w w5 by first | exact HF4.out.grown hgrow5 (fun k e => by cases e; first | exact Nat.le_refl _ | exact hsz | (simp; omega)) | exact (HF4.out.alloc _).grown hgrow5 (fun k e => by cases e; first | exact Nat.le_refl _ | exact hsz | (simp; omega)))
        have HO5 := Lib.hid (show OwnN 3 w.heap.size w5 (.slice A5 (1 + (natsI (chainO l o)).length) C5) (natsI (chainO l p)) by
          rw [HC.out]
          unfold OwnN
          rw [List.length_cons, Nat.add_comm, List.map_cons]
          rw [Nat.add_comm] at hown5
          exact hown5)
        clear hown5 hgrow5 HC4 HE4 HF4
        go_wp2
        go_ret
        exact ⟨_, rfl, HO5.out, HE5.out⟩
    · have HC := Lib.hid (show natsI (chainO l p) = [] by rw [chainO_none hp (Int.not_le.1 h0)]; rfl)
      have h2 : no < 0 := by rw [hno]; omega
      clear x0 x1 x2 x3 x5 x6 x7 x8 x9 x10 x11 x12 x13 x14 x15 hnv hno h0 h1 h hE ih
      go_enter Tryz.func46, Tryz.ntmps46
      go_wp2
      go_ret
      exact ⟨_, rfl, by rw [HC.out]; exact OwnN.nil _ _ _, Ext.refl w⟩
theorem rchain16_any (l : List Nd) (hO : RightO l) (hl : l.length ≤ 1000000) (i : Int) (hi : placeF l i = true) (w : World) (v : Value) (h : ndE.Row w l v) :
    Calls Tryz.prog 46 #[v, .int .i64 i] w fun e w' => ∃ v', e = .returned v' ∧ OwnN 3 w.heap.size w' v' (natsI (chainO l i.toNat)) ∧ Ext w w' := by
  obtain ⟨h0, h1⟩ : 0 ≤ i ∧ i < l.length := by unfold placeF at hi; simpa using hi
  obtain ⟨p, rfl⟩ : ∃ p : Nat, i = (p : Int) := ⟨i.toNat, by omega⟩
  exact rchain16_at l hO hl w v h p (by omega) w (Ext.refl w)
set_option maxRecDepth 100000 in
set_option maxHeartbeats 4000000 in
theorem rdeep16_any (l : List Nd) (hO : RightO l) (hl : l.length ≤ 1000000) (i : Int) (w : World) (v : Value) (h : ndE.Row w l v) :
    Calls Tryz.prog 27 #[v, .int .i64 i] w fun e w' => e = .returned (.int .i64 (deepF l i)) ∧ Ext w w' := by
  by_cases hp : placeF l i = true
  · have HC := Lib.hid (rchain16_any l hO hl i hp w v h)
    have HX := Lib.hid (show deepF l i = ((chainO l i.toNat).length : Int) + 1 by unfold deepF; rw [if_pos hp])
    obtain ⟨h0, h1⟩ : 0 ≤ i ∧ i < l.length := by unfold placeF at hp; simpa using hp
    have hcl := chainO_len hO i.toNat (by omega)
    obtain ⟨a, c, rfl, hc1, hc2⟩ := h.slice
    clear h hp
    go_enter Tryz.func27, Tryz.ntmps27
    go_wp2_with fail
    refine HC.out.mono ?_
    rintro e w' ⟨v', rfl, hn, hE⟩
    obtain ⟨A, C, rfl⟩ := ownsRow_sl hn
    have HE := Lib.hid hE
    clear HC hn hE
    rw [natsI_len]
    generalize (chainO l i.toNat).length = CN at *
    go_wp2
    go_ret
    exact ⟨by rw [HX.out]; rfl, HE.out⟩
  · have HX := Lib.hid (show deepF l i = 0 by unfold deepF; rw [if_neg hp])
    obtain ⟨a, c, rfl, hc1, hc2⟩ := h.slice
    have hd : i < 0 ∨ (0 ≤ i ∧ (l.length : Int) ≤ i) := by
      unfold placeF at hp
      simp at hp
      omega
    clear h hp
    rcases hd with hd | ⟨hd0, hd⟩
    all_goals
      go_enter Tryz.func27, Tryz.ntmps27
      go_wp2
      go_ret
      exact ⟨by rw [HX.out]; rfl, Ext.refl w⟩
end Go.Proofs.YtbciamploeejiaaGreatDoor

open Go.RowKit Go.Shelf
namespace Go.Proofs.YtbciamploeejiaaGreatDoor
open Go Go.Proofs Fm
attribute [local go_sem] Oper.semAt_some

set_option maxHeartbeats 1000000 in
theorem rplace24_any (l : List Nd) (i : Int) (w : World) (v : Value) (h : ndE.Row w l v) :
    Calls Tryz.prog 26 #[v, .int .i64 i] w fun e w' => e = .returned (.bool (placeF l i)) ∧ w = w' := by
  obtain ⟨a, c, rfl, hc1, hc2⟩ := h.slice
  have HX := Lib.hid (show placeF l i = (decide (0 ≤ i) && decide (i < l.length)) from rfl)
  clear h
  by_cases h0 : 0 ≤ i
  · go_enter Tryz.func26, Tryz.ntmps26
    go_wp2
    go_ret
    exact ⟨by rw [HX.out]; simp [h0], rfl⟩
  · go_enter Tryz.func26, Tryz.ntmps26
    go_wp2
    go_ret
    exact ⟨by rw [HX.out]; simp; omega, rfl⟩
set_option maxRecDepth 100000 in
set_option maxHeartbeats 4000000 in
theorem rAhead24_any (l : List Nd) (hO : RightO l) (hl : l.length ≤ 1000000) (hid : ∀ n, n ∈ l → n.id.length ≤ 1000000) (i k : Int) (w : World) (v : Value) (h : ndE.Row w l v) :
    Calls Tryz.prog 10 #[v, .int .i64 i, .int .i64 k] w fun e w' => e = .returned (.bool (aheadF l i k)) ∧ Ext w w' := by
  have HP1 := Lib.hid (rplace24_any l i w _ h)
  have HP2 := Lib.hid (rplace24_any l k w _ h)
  have HX := Lib.hid (show aheadF l i k = (placeF l i && (placeF l k && ltR (rankF l i.toNat) (rankF l k.toNat))) from rfl)
  cases hp1 : placeF l i with
  | false =>
    rw [hp1] at HP1 HX
    obtain ⟨a, c, rfl, hc1, hc2⟩ := h.slice
    clear hp1 h
    go_enter Tryz.func10, Tryz.ntmps10
    go_wp2_with fail
    refine HP1.out.mono ?_
    rintro e w1 ⟨rfl, rfl⟩
    go_wp2
    go_ret
    exact ⟨by rw [HX.out]; rfl, Ext.refl w⟩
  | true =>
    cases hp2 : placeF l k with
    | false =>
      rw [hp1] at HP1 HX
      rw [hp2] at HP2 HX
      obtain ⟨a, c, rfl, hc1, hc2⟩ := h.slice
      clear hp1 hp2 h
      go_enter Tryz.func10, Tryz.ntmps10
      go_wp2_with fail
      refine HP1.out.mono ?_
      rintro e w1 ⟨rfl, rfl⟩
      go_wp2_with fail
      refine HP2.out.mono ?_
      rintro e w1 ⟨rfl, rfl⟩
      go_wp2
      go_ret
      exact ⟨by rw [HX.out]; rfl, Ext.refl w⟩
    | true =>
      by_cases hik : i = k
      · subst hik
        have HX := Lib.hid (show aheadF l i i = false by obtain ⟨i0, i1⟩ := placeF_both.1 hp1; obtain ⟨j, rfl⟩ : ∃ j : Nat, (j : Int) = i := ⟨i.toNat, by omega⟩; exact ahead_self (by omega))
        rw [hp1] at HP1
        rw [hp2] at HP2
        obtain ⟨a, c, rfl, hc1, hc2⟩ := h.slice
        clear hp1 hp2 h
        go_enter Tryz.func10, Tryz.ntmps10
        go_wp2_with fail
        refine HP1.out.mono ?_
        rintro e w1 ⟨rfl, rfl⟩
        go_wp2_with fail
        refine HP2.out.mono ?_
        rintro e w1 ⟨rfl, rfl⟩
        go_wp2
        go_ret
        exact ⟨by rw [HX.out]; rfl, Ext.refl w⟩
      obtain ⟨i0, i1⟩ := placeF_both.1 hp1
      obtain ⟨k0, k1⟩ := placeF_both.1 hp2
      obtain ⟨i, rfl⟩ : ∃ j : Nat, (j : Int) = i := ⟨i.toNat, by omega⟩
      obtain ⟨k, rfl⟩ : ∃ j : Nat, (j : Int) = k := ⟨k.toNat, by omega⟩
      have hi : i < l.length := by omega
      have hk : k < l.length := by omega
      rw [hp1] at HP1
      rw [hp2] at HP2
      have HX := Lib.hid (ahead_ref hi hk)
      have HD1 := Lib.hid (fun X (hX : Ext w X) => rdeep16_any l hO hl (i : Int) X _ (h.ext hX))
      have HD2 := Lib.hid (fun X (hX : Ext w X) => rdeep16_any l hO hl (k : Int) X _ (h.ext hX))
      have hlen1 : l[i].id.length ≤ 9223372036854775807 := by have := hid _ (List.getElem_mem hi); omega
      have hlen2 : l[k].id.length ≤ 9223372036854775807 := by have := hid _ (List.getElem_mem hk); omega
      have HQ1 := Lib.hid (fun X => rparse12_any l[i].id hlen1 X)
      have HQ2 := Lib.hid (fun X => rparse12_any l[k].id hlen2 X)
      have HL1 := Lib.hid (fun X => rless12_any l[i].id l[k].id hlen1 hlen2 X)
      have HL2 := Lib.hid (fun X => rless12_any l[k].id l[i].id hlen2 hlen1 X)
      have HN1 := Lib.hid (fun X (hX : Ext w X) => h.ext hX)
      obtain ⟨a, c, rfl, hc1, hc2⟩ := h.slice
      obtain ⟨b, off, rfl, hb, aa, ma, ca, kk, N, s, d, ⟨x0, -, -, -, -, -, -, -, -, -, x10, -⟩, -⟩ := nd_at16 h (Ext.refl w) i hi
      obtain ⟨b', off', hbb, hb', aa', ma', ca', kk', N', s', d', ⟨y0, -, -, -, -, -, -, -, -, -, y10, -⟩, -⟩ := nd_at16 h (Ext.refl w) k hk
      injection hbb with hbb
      injection hbb with hb1 hb2
      subst hb1 hb2
      obtain ⟨LN, hLN⟩ : ∃ LN, LN = l.length := ⟨_, rfl⟩
      rw [← hLN] at HP1 HP2 HD1 HD2 hc1 i1 k1 ⊢
      generalize l[i].fails = f1 at *
      generalize l[k].fails = f2 at *
      generalize l[i].id = s1 at *
      generalize l[k].id = s2 at *
      have hne : ((i : Int) == (k : Int)) = false := by simpa using hik
      have HSC : Hid (∀ X, Ext w X → X.cell? ⟨b, off + i * 16, none⟩ = some (.string (str s1)) ∧ X.cell? ⟨b, off + k * 16, none⟩ = some (.string (str s2))) := Lib.hid (fun X hX => ⟨(hX.cell (p := ⟨b, off + i * 16, none⟩) hb).trans x0, (hX.cell (p := ⟨b, off + k * 16, none⟩) hb).trans y0⟩)
      clear hp1 hp2 h hid hlen1 hlen2 x0 y0 HN1 hLN hi hk hc2 hik
      go_enter Tryz.func10, Tryz.ntmps10
      go_wp2_with fail
      refine HP1.out.mono ?_
      rintro e w1 ⟨rfl, rfl⟩
      go_wp2_with fail
      refine HP2.out.mono ?_
      rintro e w1 ⟨rfl, rfl⟩
      clear HP1 HP2
      go_upto_region 3 with (fail)
      by_cases hf : f1 = f2
      case neg =>
        have hfb : (f1 != f2) = true := by simp [hf]
        have HX := Lib.hid (show aheadF l (i : Int) (k : Int) = decide (f1 < f2) by rw [HX.out]; unfold refA; rw [if_pos hf])
        clear hf HD1 HD2 HQ1 HQ2 HL1 HL2 HSC
        go_region
        go_wp2
        go_region
        go_wp2
        go_ret
        exact ⟨by rw [HX.out]; rfl, (Ext.refl w).drew.drew⟩
      subst hf
      have hfb : (f1 != f1) = false := by simp
      have HX := Lib.hid (show aheadF l (i : Int) (k : Int) = if deepF l (i : Int) ≠ deepF l (k : Int) then decide (deepF l (k : Int) < deepF l (i : Int)) else if (parseP s1).isSome ≠ (parseP s2).isSome then (parseP s1).isSome else if lessS s1 s2 then true else !lessS s2 s1 && decide ((i : Int) < (k : Int)) by rw [HX.out]; unfold refA; rw [if_neg (by simp)])
      generalize deepF l (i : Int) = dx at *
      generalize deepF l (k : Int) = dy at *
      generalize lessS s1 s2 = l1 at *
      generalize lessS s2 s1 = l2 at *
      go_region
      clear x10 y10 hfb
      go_wp2_with fail
      refine (HD1.out _ (Ext.refl w).drew).mono ?_
      rintro e w1 ⟨rfl, hE1⟩
      have HE1 := Lib.hid ((Ext.refl w).drew.trans hE1)
      clear hE1 HD1
      go_wp2_with fail
      refine (HD2.out w1 HE1.out).mono ?_
      rintro e w2 ⟨rfl, hE2⟩
      have HE2 := Lib.hid (HE1.out.trans hE2)
      clear hE2 HD2 HE1
      by_cases hd : dx = dy
      case neg =>
        have hfb : (dx != dy) = true := by simp [hd]
        have HX := Lib.hid (HX.out.trans (if_pos hd))
        clear hd HQ1 HQ2 HL1 HL2 HSC
        go_wp2
        go_ret
        exact ⟨by rw [HX.out]; rfl, HE2.out⟩
      subst hd
      have hfb : (dx != dx) = false := by simp
      have HX := Lib.hid (HX.out.trans (if_neg (by simp)))
      have HSC2 := HSC.out w2 HE2.out
      obtain ⟨x0, y0⟩ := HSC2
      go_wp2_with fail
      refine (HQ1.out w2).mono ?_
      intro e w3 hpo
      obtain ⟨v, rfl, hE1, a1, m1, c1, rfl, -, -⟩ := PathPost.path hpo
      have HE1 := Lib.hid (HE2.out.trans (hE1.alloc (.cells #[.int .i64 (pthOr s1).flow, .slice a1 m1 c1] 58)))
      clear hE1 hpo HQ1 x0 y0
      generalize (pthOr s1).flow = fa at *
      go_upto_region 9 with (fail)
      generalize w3.alloc (.cells #[.int .i64 fa, .slice a1 m1 c1] 58) = W2 at *
      generalize w3.heap.size = P at *
      have HSC2 := HSC.out W2 HE1.out
      obtain ⟨x0, y0⟩ := HSC2
      go_wp2_with fail
      refine (HQ2.out W2).mono ?_
      intro e w5 hpo
      obtain ⟨v, rfl, hE3, a2, m2, c2, rfl, -, -⟩ := PathPost.path hpo
      have HE3 := Lib.hid (HE1.out.trans (hE3.alloc (.cells #[.int .i64 (pthOr s2).flow, .slice a2 m2 c2] 58)))
      clear hE3 HQ2 HE1 HE2 hpo x0 y0
      generalize (pthOr s2).flow = fb at *
      go_upto_region 10 with (fail)
      generalize w5.alloc (.cells #[.int .i64 fb, .slice a2 m2 c2] 58) = W6 at *
      generalize w5.heap.size = Q at *
      generalize (parseP s1).isSome = pa at *
      generalize (parseP s2).isSome = pb at *
      by_cases hp : pa = pb
      case neg =>
        have hfb : (pa != pb) = true := by simp [hp]
        have HX := Lib.hid (HX.out.trans (if_pos hp))
        clear HL1 HL2 HSC
        cases pa <;> cases pb <;> first | (exact absurd rfl hp) | skip
        all_goals
          clear hp hfb
          go_wp2
          go_ret
          exact ⟨by rw [HX.out]; rfl, HE3.out⟩
      subst hp
      have HX := Lib.hid (HX.out.trans (if_neg (by simp)))
      have HSC := Lib.hid (fun X (hX : Ext W6 X) => HSC.out X (HE3.out.trans hX))
      have ED := Lib.hid (Ext.refl W6).drew
      have hi0 : (0 : Int) ≤ (i : Int) := by omega
      have hk0 : (0 : Int) ≤ (k : Int) := by omega
      have hfb : (pa != pa) = false := by simp
      go_upto_region 12 with (fail)
      go_region_held3 (fun X => X.cell? ⟨b, off + i * 16, none⟩ = some (.string (str s1)) ∧ X.cell? ⟨b, off + k * 16, none⟩ = some (.string (str s2)))
        ((first | exact HSC.out _ ED.out | exact HSC.out _ E1.out | (refine ⟨?_, ?_⟩ <;> go_simp)))
        ((go_at_call 29; refine (HL1.out _).mono ?_; rintro e w4 ⟨rfl, hE4⟩; have E1 := Lib.hid (ED.out.trans hE4); clear hE4))
      have HE4 := Lib.hid (HE3.out.trans E1.out)
      have HSC4 := Lib.hid (fun X (hX : Ext w4 X) => HSC.out X (E1.out.trans hX))
      clear HE3 HSC E1 ED HL1
      cases l1 with
      | true =>
        clear HL2 HSC4
        go_wp2
        go_ret
        exact ⟨by rw [HX.out]; rfl, HE4.out⟩
      | false =>
        have ED := Lib.hid (Ext.refl w4).drew
        go_upto_region 14 with (fail)
        cases l2 with
        | true =>
          refine wp_region_held_drew (S := (fun X => X.cell? ⟨b, off + i * 16, none⟩ = some (.string (str s1)) ∧ X.cell? ⟨b, off + k * 16, none⟩ = some (.string (str s2)))) (by kernel_rfl) ?_ (fun hHeld => ?_)
          · (try dsimp only)
            exact HSC4.out _ ED.out
          refine take_w 0 (some 95) (v := ?_) (by kernel_rfl) (by kernel_rfl) (by kernel_rfl) (by kernel_rfl) (by kernel_rfl) (fun _ _ _ h => h) (by rfl) ?_ (by assumption) ?_
          rotate_left
          · (intro w hSw; (try dsimp only at hSw); go_simp; try with_reducible rfl)
          try simp only [Act.put, List.setIfInBounds_toArray, List.set_cons_zero, List.set_cons_succ]
          refine take_w 1 (some 96) (v := ?_) (by kernel_rfl) (by kernel_rfl) (by kernel_rfl) (by kernel_rfl) (by kernel_rfl) (fun _ _ _ h => h) (by rfl) ?_ (by assumption) ?_
          rotate_left
          · (intro w hSw; (try dsimp only at hSw); go_simp; try with_reducible rfl)
          try simp only [Act.put, List.setIfInBounds_toArray, List.set_cons_zero, List.set_cons_succ]
          refine take_w 2 (some 97) (v := ?_) (by kernel_rfl) (by kernel_rfl) (by kernel_rfl) (by kernel_rfl) (by kernel_rfl) (fun _ _ _ h => h) (by rfl) ?_ (by assumption) ?_
          rotate_left
          · (intro w hSw; (try dsimp only at hSw); go_simp; try with_reducible rfl)
          try simp only [Act.put, List.setIfInBounds_toArray, List.set_cons_zero, List.set_cons_succ]
          refine take_w 3 (some 98) (v := ?_) (by kernel_rfl) (by kernel_rfl) (by kernel_rfl) (by kernel_rfl) (by kernel_rfl) (fun _ _ _ h => h) (by rfl) ?_ (by assumption) ?_
          rotate_left
          · (intro w hSw; (try dsimp only at hSw); go_simp; try with_reducible rfl)
          try simp only [Act.put, List.setIfInBounds_toArray, List.set_cons_zero, List.set_cons_succ]
          refine take_w 4 (some 99) (v := ?_) (by kernel_rfl) (by kernel_rfl) (by kernel_rfl) (by kernel_rfl) (by kernel_rfl) (fun _ _ _ h => h) (by rfl) ?_ (by assumption) ?_
          rotate_left
          · (intro w hSw; (try dsimp only at hSw); go_simp; try with_reducible rfl)
          try simp only [Act.put, List.setIfInBounds_toArray, List.set_cons_zero, List.set_cons_succ]
          refine take_w 5 (some 100) (v := ?_) (by kernel_rfl) (by kernel_rfl) (by kernel_rfl) (by kernel_rfl) (by kernel_rfl) (fun _ _ _ h => h) (by rfl) ?_ (by assumption) ?_
          rotate_left
          · (intro w hSw; (try dsimp only at hSw); go_simp; try with_reducible rfl)
          try simp only [Act.put, List.setIfInBounds_toArray, List.set_cons_zero, List.set_cons_succ]
          refine take_w 6 (some 101) (v := ?_) (by kernel_rfl) (by kernel_rfl) (by kernel_rfl) (by kernel_rfl) (by kernel_rfl) (fun _ _ _ h => h) (by rfl) ?_ (by assumption) ?_
          rotate_left
          · (intro w hSw; (try dsimp only at hSw); go_simp; try with_reducible rfl)
          try simp only [Act.put, List.setIfInBounds_toArray, List.set_cons_zero, List.set_cons_succ]
          refine take_w 7 (some 102) (v := ?_) (by kernel_rfl) (by kernel_rfl) (by kernel_rfl) (by kernel_rfl) (by kernel_rfl) (fun _ _ _ h => h) (by rfl) ?_ (by assumption) ?_
          rotate_left
          · (intro w hSw; (try dsimp only at hSw); go_simp; try with_reducible rfl)
          try simp only [Act.put, List.setIfInBounds_toArray, List.set_cons_zero, List.set_cons_succ]
          refine take_w 8 (some 103) (v := ?_) (by kernel_rfl) (by kernel_rfl) (by kernel_rfl) (by kernel_rfl) (by kernel_rfl) (fun _ _ _ h => h) (by rfl) ?_ (by assumption) ?_
          rotate_left
          · (intro w hSw; (try dsimp only at hSw); go_simp; try with_reducible rfl)
          try simp only [Act.put, List.setIfInBounds_toArray, List.set_cons_zero, List.set_cons_succ]
          refine take_w 9 (some 104) (v := ?_) (by kernel_rfl) (by kernel_rfl) (by kernel_rfl) (by kernel_rfl) (by kernel_rfl) (fun _ _ _ h => h) (by rfl) ?_ (by assumption) ?_
          rotate_left
          · (intro w hSw; (try dsimp only at hSw); go_simp; try with_reducible rfl)
          try simp only [Act.put, List.setIfInBounds_toArray, List.set_cons_zero, List.set_cons_succ]
          refine ready_one 10 (by kernel_rfl) (by kernel_rfl) (by rfl) (fun Kc hKc => ?_)
          go_simp
          refine (HL2.out _).mono ?_
          rintro e z1 ⟨rfl, hx⟩
          have ED := Lib.hid (ED.out.trans hx)
          clear hx
          try go_wp2_with fail
          refine hKc.out _ _ ?_ (fun hHeld => ?_)
          · (try dsimp only)
            exact HSC4.out _ ED.out
          clear hKc Kc
          try simp only [Act.put, List.setIfInBounds_toArray, List.set_cons_zero, List.set_cons_succ]
          refine take_w 11 (some 106) (v := ?_) (by kernel_rfl) (by kernel_rfl) (by kernel_rfl) (by kernel_rfl) (by kernel_rfl) (fun _ _ _ h => h) (by rfl) ?_ (by assumption) ?_
          rotate_left
          · (intro w hSw; (try dsimp only at hSw); go_simp; try with_reducible rfl)
          try simp only [Act.put, List.setIfInBounds_toArray, List.set_cons_zero, List.set_cons_succ]
          refine take_w 12 (some 107) (v := ?_) (by kernel_rfl) (by kernel_rfl) (by kernel_rfl) (by kernel_rfl) (by kernel_rfl) (fun _ _ _ h => h) (by rfl) ?_ (by assumption) ?_
          rotate_left
          · (intro w hSw; (try dsimp only at hSw); go_simp; try with_reducible rfl)
          try simp only [Act.put, List.setIfInBounds_toArray, List.set_cons_zero, List.set_cons_succ]
          refine take_un 3 [(13, some 108), (14, some 109), (15, some 110)] rfl (by kernel_rfl) (fun _ _ _ _ h => h) (by assumption) ?_
          simp only [putU, setU, Act.put, List.setIfInBounds_toArray, List.set_cons_zero, List.set_cons_succ]
          refine take_w 16 (some 111) (v := ?_) (by kernel_rfl) (by kernel_rfl) (by kernel_rfl) (by kernel_rfl) (by kernel_rfl) (fun _ _ _ h => h) (by rfl) ?_ (by assumption) ?_
          rotate_left
          · (intro w hSw; (try dsimp only at hSw); go_simp; try with_reducible rfl)
          try simp only [Act.put, List.setIfInBounds_toArray, List.set_cons_zero, List.set_cons_succ]
          refine take_w 17 (some 6) (v := ?_) (by kernel_rfl) (by kernel_rfl) (by kernel_rfl) (by kernel_rfl) (by kernel_rfl) (fun _ _ _ h => h) (by rfl) ?_ (by assumption) ?_
          rotate_left
          · (intro w hSw; (try dsimp only at hSw); go_simp; try with_reducible rfl)
          try simp only [Act.put, List.setIfInBounds_toArray, List.set_cons_zero, List.set_cons_succ]
          refine wpAnyH_done (by kernel_rfl) ?_ _
          go_wp2
          go_ret
          exact ⟨by rw [HX.out]; rfl, HE4.out.trans ED.out⟩
        | false =>
          go_region_held3 (fun X => X.cell? ⟨b, off + i * 16, none⟩ = some (.string (str s1)) ∧ X.cell? ⟨b, off + k * 16, none⟩ = some (.string (str s2)))
            ((first | exact HSC4.out _ ED.out | exact HSC4.out _ E1.out | (refine ⟨?_, ?_⟩ <;> go_simp)))
            ((go_at_call 29; refine (HL2.out _).mono ?_; rintro e w4 ⟨rfl, hE4⟩; have E1 := Lib.hid (ED.out.trans hE4); clear hE4))
          all_goals
            go_wp2
            go_ret
            exact ⟨by rw [HX.out]; simp [go_sem], HE4.out.trans E1.out⟩
end Go.Proofs.YtbciamploeejiaaGreatDoor

open Go.RowKit Go.Shelf
namespace Go.Proofs
def Tryz.lays189_ren : Go.Shelf.Ren := ⟨fun | 189 => 35 | 125 => 52 | 257 => 51 | 128 => 70 | 129 => 71 | 294 => 61 | 295 => 62 | 296 => 63 | 297 => 64 | 298 => 65 | 299 => 66 | 216 => 67 | 300 => 68 | 301 => 69 | 328 => 77 | 329 => 78 | 330 => 79 | 331 => 80 | 332 => 81 | 215 => 56 | 343 => 90 | n => n, fun | 28 => 22 | 3 => 3 | 46 => 42 | 0 => 0 | 51 => 102 | 53 => 104 | 4 => 4 | 183 => 97 | 182 => 96 | 131 => 26 | 5 => 5 | 9 => 9 | 218 => 115 | 222 => 119 | 228 => 131 | 229 => 76 | n => n, fun | n => n⟩
theorem Tryz.lays189 : Go.Proofs.Lays.n189 Tryz.prog Tryz.lays189_ren := {
  mixed := by kernel_rfl
  f125 := Tryz.func52.trans (congrArg some (by kernel_rfl))
  f128 := Tryz.func70.trans (congrArg some (by kernel_rfl))
  f129 := Tryz.func71.trans (congrArg some (by kernel_rfl))
  f189 := Tryz.func35.trans (congrArg some (by kernel_rfl))
  f215 := Tryz.func56.trans (congrArg some (by kernel_rfl))
  f216 := Tryz.func67.trans (congrArg some (by kernel_rfl))
  f257 := Tryz.func51.trans (congrArg some (by kernel_rfl))
  f294 := Tryz.func61.trans (congrArg some (by kernel_rfl))
  f295 := Tryz.func62.trans (congrArg some (by kernel_rfl))
  f296 := Tryz.func63.trans (congrArg some (by kernel_rfl))
  f297 := Tryz.func64.trans (congrArg some (by kernel_rfl))
  f298 := Tryz.func65.trans (congrArg some (by kernel_rfl))
  f299 := Tryz.func66.trans (congrArg some (by kernel_rfl))
  f300 := Tryz.func68.trans (congrArg some (by kernel_rfl))
  f301 := Tryz.func69.trans (congrArg some (by kernel_rfl))
  f328 := Tryz.func77.trans (congrArg some (by kernel_rfl))
  f329 := Tryz.func78.trans (congrArg some (by kernel_rfl))
  f330 := Tryz.func79.trans (congrArg some (by kernel_rfl))
  f331 := Tryz.func80.trans (congrArg some (by kernel_rfl))
  f332 := Tryz.func81.trans (congrArg some (by kernel_rfl))
  f343 := Tryz.func90.trans (congrArg some (by kernel_rfl))
  t0 := Tryz.underlying0
  a0 := Tryz.isAgg0
  z0 := Tryz.sizeOf0
  v0 := Tryz.zeroValue0
  t3 := Tryz.underlying3
  a3 := Tryz.isAgg3
  z3 := Tryz.sizeOf3
  v3 := Tryz.zeroValue3
  t4 := Tryz.underlying4
  a4 := Tryz.isAgg4
  z4 := Tryz.sizeOf4
  v4 := Tryz.zeroValue4
  t5 := Tryz.underlying5
  a5 := Tryz.isAgg5
  z5 := Tryz.sizeOf5
  v5 := Tryz.zeroValue5
  t9 := Tryz.underlying9
  a9 := Tryz.isAgg9
  z9 := Tryz.sizeOf9
  v9 := Tryz.zeroValue9
  t28 := Tryz.underlying22
  a28 := Tryz.isAgg22
  z28 := Tryz.sizeOf22
  v28 := Tryz.zeroValue22
  t46 := Tryz.underlying42
  a46 := Tryz.isAgg42
  z46 := Tryz.sizeOf42
  v46 := Tryz.zeroValue42
  t51 := Tryz.underlying102
  a51 := Tryz.isAgg102
  z51 := Tryz.sizeOf102
  v51 := Tryz.zeroValue102
  t53 := Tryz.underlying104
  a53 := Tryz.isAgg104
  z53 := Tryz.sizeOf104
  v53 := Tryz.zeroValue104
  t131 := Tryz.underlying26
  a131 := Tryz.isAgg26
  z131 := Tryz.sizeOf26
  v131 := Tryz.zeroValue26
  t182 := Tryz.underlying96
  a182 := Tryz.isAgg96
  z182 := Tryz.sizeOf96
  v182 := Tryz.zeroValue96
  t183 := Tryz.underlying97
  a183 := Tryz.isAgg97
  z183 := Tryz.sizeOf97
  v183 := Tryz.zeroValue97
  t218 := Tryz.underlying115
  a218 := Tryz.isAgg115
  z218 := Tryz.sizeOf115
  v218 := Tryz.zeroValue115
  t222 := Tryz.underlying119
  a222 := Tryz.isAgg119
  z222 := Tryz.sizeOf119
  v222 := Tryz.zeroValue119
  t228 := Tryz.underlying131
  a228 := Tryz.isAgg131
  z228 := Tryz.sizeOf131
  v228 := Tryz.zeroValue131
  t229 := Tryz.underlying76
  a229 := Tryz.isAgg76
  z229 := Tryz.sizeOf76
  v229 := Tryz.zeroValue76 }
def Tryz.lays2_20_ren : Go.Shelf.Ren := ⟨fun | 20 => 36 | n => n, fun | 22 => 22 | 3 => 3 | 4 => 4 | 0 => 0 | n => n, fun | n => n⟩
theorem Tryz.lays2_20 : Go.Proofs.Lays2.n20 Tryz.prog Tryz.lays2_20_ren := {
  mixed := by kernel_rfl
  f20 := Tryz.func36.trans (congrArg some (by kernel_rfl))
  t0 := Tryz.underlying0
  a0 := Tryz.isAgg0
  z0 := Tryz.sizeOf0
  v0 := Tryz.zeroValue0
  t3 := Tryz.underlying3
  a3 := Tryz.isAgg3
  z3 := Tryz.sizeOf3
  v3 := Tryz.zeroValue3
  t4 := Tryz.underlying4
  a4 := Tryz.isAgg4
  z4 := Tryz.sizeOf4
  v4 := Tryz.zeroValue4
  t22 := Tryz.underlying22
  a22 := Tryz.isAgg22
  z22 := Tryz.sizeOf22
  v22 := Tryz.zeroValue22
  i3 := by kernel_rfl }
def Tryz.lays107_ren : Go.Shelf.Ren := ⟨fun | 107 => 38 | 108 => 53 | n => n, fun | 28 => 22 | 3 => 3 | 4 => 4 | 0 => 0 | n => n, fun | n => n⟩
theorem Tryz.lays107 : Go.Proofs.Lays.n107 Tryz.prog Tryz.lays107_ren := {
  mixed := by kernel_rfl
  f107 := Tryz.func38.trans (congrArg some (by kernel_rfl))
  f108 := Tryz.func53.trans (congrArg some (by kernel_rfl))
  t0 := Tryz.underlying0
  a0 := Tryz.isAgg0
  z0 := Tryz.sizeOf0
  v0 := Tryz.zeroValue0
  t3 := Tryz.underlying3
  a3 := Tryz.isAgg3
  z3 := Tryz.sizeOf3
  v3 := Tryz.zeroValue3
  t4 := Tryz.underlying4
  a4 := Tryz.isAgg4
  z4 := Tryz.sizeOf4
  v4 := Tryz.zeroValue4
  t28 := Tryz.underlying22
  a28 := Tryz.isAgg22
  z28 := Tryz.sizeOf22
  v28 := Tryz.zeroValue22 }
def Tryz.cloneI_ren : Go.Shelf.Ren := ⟨fun | 41 => 32 | n => n, fun | 22 => 22 | 23 => 3 | 4 => 4 | n => n, fun | n => n⟩
theorem Tryz.cloneI : SlLaysE0.n41 Tryz.prog Tryz.cloneI_ren := {
  mixed := by kernel_rfl
  f41 := ⟨Tryz.f32.name, by kernel_rfl, Tryz.func32.trans (congrArg some (by kernel_rfl))⟩
  t4 := Tryz.underlying4
  a4 := Tryz.isAgg4
  z4 := Tryz.sizeOf4
  v4 := Tryz.zeroValue4
  t22 := Tryz.underlying22
  a22 := Tryz.isAgg22
  z22 := Tryz.sizeOf22
  v22 := Tryz.zeroValue22 }
def Tryz.delI_ren : Go.Shelf.Ren := ⟨fun | 6 => 50 | 10 => 31 | n => n, fun | 0 => 0 | 3 => 3 | 4 => 4 | 22 => 22 | 23 => 3 | 25 => 65 | n => n, fun | n => n⟩
theorem Tryz.delI : SlLaysH.n10 Tryz.prog Tryz.delI_ren := {
  mixed := by kernel_rfl
  f6 := ⟨Tryz.f50.name, by kernel_rfl, Tryz.func50.trans (congrArg some (by kernel_rfl))⟩
  f10 := ⟨Tryz.f31.name, by kernel_rfl, Tryz.func31.trans (congrArg some (by kernel_rfl))⟩
  t0 := Tryz.underlying0
  a0 := Tryz.isAgg0
  z0 := Tryz.sizeOf0
  v0 := Tryz.zeroValue0
  t3 := Tryz.underlying3
  a3 := Tryz.isAgg3
  z3 := Tryz.sizeOf3
  v3 := Tryz.zeroValue3
  t4 := Tryz.underlying4
  a4 := Tryz.isAgg4
  z4 := Tryz.sizeOf4
  v4 := Tryz.zeroValue4
  t22 := Tryz.underlying22
  a22 := Tryz.isAgg22
  z22 := Tryz.sizeOf22
  v22 := Tryz.zeroValue22
  a23 := Tryz.isAgg3
  z23 := Tryz.sizeOf3
  t25 := Tryz.underlying65
  a25 := Tryz.isAgg65
  z25 := Tryz.sizeOf65
  v25 := Tryz.zeroValue65 }
end Go.Proofs

open Go.RowKit Go.Shelf
namespace Fm
open Go Go.RowKit Go.Sort
theorem ext_putRow {w0 w : World} (h : Ext w0 w) {g : Nat} (hg : w0.heap.size ≤ g) (q : Nat) (d : Array Int) : Ext w0 (putRow (Value.int .i64) (Sort.ahead w q) g 0 d) := Lib.below_putRow h hg
theorem compact_le (zs : List Int) : (Lib.compact zs).length ≤ zs.length := by
  unfold Lib.compact Lib.compactUpTo
  rw [List.length_map]
  refine Nat.le_trans (List.length_filter_le _ _) ?_
  simp
end Fm
namespace Go.Proofs.YtbciamploeejiaaGreatDoor
open Go Go.Proofs Fm

theorem info_intR : ∃ i, Tryz.prog.info? 3 = some i ∧ i.zero = some (.int .i64 0) ∧ i.size = 1 ∧ i.bytes = 8 := by
  have h : (Tryz.prog.info? 3).map (fun i => (i.zero, i.size, i.bytes)) = some (some (.int .i64 0), 1, 8) := by kernel_rfl
  exact info_parts h
set_option maxHeartbeats 2000000 in
set_option maxRecDepth 100000 in
theorem cloneR_zero (ad : Addr) (c : Nat) (w : World) :
    Calls Tryz.prog 32 #[.slice (some ad) 0 c] w fun e w' => ∃ v', e = .returned v' ∧ w'.ownsRow w.heap.size 3 1 v' 0 [] ∧ Ext w w' := by
  have q22 : ∀ (w : World) (a : Option Addr) (n c n' c' : Nat), (binOp .eql 22 (.slice a n c) (.slice none n' c')).run Tryz.prog w = .ok (.bool a.isNone) w := fun w a n c n' c' => Lib.run_eql_slice_nil w _ _ a n c n' c' Tryz.underlying22
  obtain ⟨i0, hi, hz0, hz1, hz2⟩ := info_intR
  go_enter Tryz.func32, Tryz.ntmps32
  go_wp2_with (at_builtin; refine wpList_append_own _ rfl _ _ 22 rfl w.heap.size 3 i0 _ 1 8 Tryz.underlying22 hi hz0 hz1 hz2 rfl (by omega) _ _ _ rfl (World.ownsRow_made w #[] 0 (Nat.le_refl _) (Nat.zero_le _) (by simp)) ad 0 c [] rfl (by simp) (fun j u hj => by simp at hj) (fun u hu => by cases hu) (by unfold maxLen; omega) (by omega) (by simp) ?_)
  intro v' w1 hown hgrow hnil
  go_wp2
  go_ret
  exact ⟨v', rfl, by simpa using hown, ((Ext.refl w).alloc _).grown hgrow (by intro k hk; simp [Value.ownBlock] at hk; omega)⟩
theorem cloneR_any (l : List Int) (w : World) (v : Value) (hv : intE.Row w l v) (hl : l.length ≤ 100000) :
    Calls Tryz.prog 32 #[v] w fun e w' => ∃ v', e = .returned v' ∧ OwnN 3 w.heap.size w' v' l ∧ Ext w w' := by
  obtain ⟨a, c, rfl, hc, -⟩ := hv.slice
  cases a with
  | none =>
    have hl0 : l = [] := by
      cases hx : l with
      | nil => rfl
      | cons y r =>
        obtain ⟨_, b, off, h, _⟩ := hv.at (by rw [hx]; simp)
        cases h
    subst hl0
    refine (AnyE.slices_Clone_nil Tryz.cloneI _ _ w).mono ?_
    rintro e w' ⟨rfl, rfl⟩
    exact ⟨_, rfl, OwnN.nil _ _ _, Ext.refl _⟩
  | some ad =>
    by_cases h0 : l.length = 0
    · have hs0 : l = [] := List.eq_nil_of_length_eq_zero h0
      subst hs0
      refine (cloneR_zero ad c w).mono ?_
      rintro e w' ⟨v', rfl, h1, h2⟩
      exact ⟨v', rfl, h1, h2⟩
    · obtain ⟨-, b, off, hab, hb, hat⟩ := hv.at (by omega)
      injection hab with hab
      subst hab
      obtain ⟨i0, hi, hz0, hz1, hz2⟩ := info_intR
      refine (AnyE.slices_Clone Tryz.cloneI i0 _ 1 8 hi hz0 hz1 hz2 rfl (by omega) Tryz.sizeOf3 b off l.length c (l.map (Value.int .i64)) w (by simp) (by unfold maxLen; omega) (by omega) (fun j u hu => ?_) (fun u hu => ?_)).mono ?_
      · obtain ⟨x, hx, rfl⟩ := List.mem_iff_getElem?.1 (List.mem_of_getElem? hu) |>.elim (fun _ _ => by
          rw [List.getElem?_map] at hu
          exact Option.map_eq_some_iff.1 hu)
        obtain ⟨hj, rfl⟩ := List.getElem?_eq_some_iff.1 hx
        obtain ⟨cc, hR, hcell⟩ := hat j hj
        have := hcell 0 (by decide) w (Ext.refl w)
        rw [show off + j = off + (j * intE.sz + 0) by show off + j = off + (j * 1 + 0); omega, this, hR.1]
      · simp only [List.mem_map] at hu
        obtain ⟨x, -, rfl⟩ := hu
        rfl
      · rintro e w' ⟨v', rfl, h1, -, h2⟩
        exact ⟨v', rfl, h1, h2⟩
theorem enc_int : OneCell (Value.int .i64) := fun _ => rfl
set_option maxHeartbeats 1000000 in
theorem waits1_any (l : List Nd) (x : Int) (b : Nat) (W : World) (v : Value) (h : ndE.Row W l v) (hb : W.cell? ⟨b, 0, none⟩ = some v) :
    Calls Tryz.prog 33 #[.int .i64 x, .pointer (some ⟨b, 0, none⟩)] W fun e w' => e = .returned (.bool (doneF l x)) ∧ W = w' := by
  have HC := Lib.hid (rddone_any l x W v h)
  obtain ⟨a, c, rfl, -, -⟩ := h.slice
  clear h
  go_enter Tryz.func33, Tryz.ntmps33
  go_wp2_with fail
  refine HC.out.mono ?_
  rintro e w1 ⟨rfl, rfl⟩
  go_wp2
  go_ret
  exact ⟨rfl, rfl⟩
theorem OwnN.put {e : TypeId} {base g n cap q : Nat} {w : World} {l ys : List Int} (h : OwnN e base w (.slice (some ⟨g, 0, none⟩) n cap) l) (hn : l.length = n) (zs : List Int) (r : List Int) (hy : ys = zs ++ r) (hl : ys.length = n) : OwnN e base (Go.Sort.putRow (Value.int .i64) (Sort.ahead w q) g 0 ys.toArray) (.slice (some ⟨g, 0, none⟩) zs.length cap) zs := by
  have h' : w.ownsRow base e 1 (.slice (some ⟨g, 0, none⟩) n cap) n (l.map (Value.int .i64)) := by rw [← hn]; unfold OwnN at h; rw [← hn] at h; exact h
  have := Lib.ownsRow_putRow (q := q) h' hl (k := zs.length) (by rw [← hl, hy]; simp)
  rw [show ys.take zs.length = zs by rw [hy]; simp] at this
  exact this
set_option maxHeartbeats 1000000 in
theorem idxR_nil (f : Value) (w : World) : Calls Tryz.prog 50 #[.slice none 0 0, f] w fun e w' => e = .returned (.int .i64 (-1)) ∧ w = w' := by
  go_enter Tryz.func50, Tryz.ntmps50
  go_wp2_with fail
  refine wp_loop_rounds 1 ?_
  rw [rounds_succ]
  go_wp2
  go_ret
  exact ⟨rfl, rfl⟩
set_option maxRecDepth 100000 in
set_option maxHeartbeats 4000000 in
/-- Those that are not done are left. -/
theorem delI_any (l : List Nd) (w0 w : World) (hE0 : Ext w0 w) (b : Nat) (hb : b < w0.heap.size) (v : Value) (h : ndE.Row w0 l v) (hbx : w0.cell? ⟨b, 0, none⟩ = some v) (zs : List Int) (u : Value) (hz : OwnN 3 w0.heap.size w u zs) (hlen : zs.length ≤ 100000) :
    Calls Tryz.prog 31 #[u, .func (.func 33) #[] #[.pointer (some ⟨b, 0, none⟩)]] w fun e w' => ∃ u', e = .returned u' ∧ OwnN 3 w0.heap.size w' u' (zs.filter fun a => !doneF l a) ∧ Ext w0 w' := by
  have eg : ∀ args w, (callFunc 33 args).run Tryz.prog w = .ok (.enter 33 args) w := fun _ _ => by kernel_rfl
  by_cases hu : u = .slice none 0 0
  · subst hu
    have hz0 : zs = [] := by
      have := hz.1
      rcases hz.2 with ⟨-, e2⟩ | ⟨g, cap, cur, e1, -⟩
      · exact List.eq_nil_of_length_eq_zero e2
      · cases e1
    subst hz0
    have HE := Lib.hid hE0
    clear hE0 hz h hbx
    go_enter Tryz.func31, Tryz.ntmps31
    go_wp2_with fail
    refine (idxR_nil _ w).mono ?_
    rintro e w1 ⟨rfl, rfl⟩
    go_wp2
    go_ret
    exact ⟨_, rfl, OwnN.nil _ _ _, HE.out⟩
  · obtain ⟨g, cap, rfl, hg, hgl, hn, hm, -, hH⟩ := Lib.holds_of_ownsRow hz hu
    have hfar : ∀ X, Ext w0 X → ∀ x, Calls Tryz.prog 33 #[.int .i64 x, .pointer (some ⟨b, 0, none⟩)] X fun e w' => e = .returned (.bool (doneF l x)) ∧ X = w' := fun X hX x =>
      waits1_any l x b X v (h.ext hX) ((hX.cell (p := ⟨b, 0, none⟩) hb).trans hbx)
    have hgive : ∀ X, Ext w0 X → ∀ x : Int, FnGives Tryz.prog 33 #[.pointer (some ⟨b, 0, none⟩)] #[.int .i64 x] (.bool (doneF l x)) X := fun X hX x =>
      (hfar X hX x).mono (fun e w' he => ⟨he.1, 0, by rw [← he.2]; rfl⟩)
    have hc := AnyE.slices_DeleteFunc Tryz.delI (Value.int .i64) enc_int (doneF l) 33 #[.pointer (some ⟨b, 0, none⟩)] eg 0 Tryz.zeroValue3 g 0 cap zs.toArray w (fun X x hX => hgive X (hE0.trans hX) x)
      (fun n os dk x _ => hgive _ ((ext_putRow hE0 hg n dk).trans (ext_grow _ os)) x) hH (by simp; omega) (by simpa using hn)
    rw [show (zs.toArray).size = zs.length by simp] at hc
    refine hc.mono ?_
    rintro e w' ⟨rfl, q, rfl⟩
    exact ⟨_, rfl, OwnN.put hz rfl _ _ rfl (by have := List.length_filter_le (fun x => !doneF l x) zs; simp; omega), ext_putRow hE0 hg q _⟩
theorem sortR_any (base : Nat) (w0 w : World) (hE : Ext w0 w) (hb : w0.heap.size ≤ base) (zs : List Int) (u : Value) (hz : OwnN 3 base w u zs) (hlen : zs.length ≤ 100000) :
    Calls Tryz.prog 35 #[u] w fun e w' => e = .returned (.tuple #[]) ∧ OwnN 3 base w' u (zs.mergeSort fun x y => decide (x ≤ y)) ∧ Ext w0 w' := by
  by_cases h0 : zs = []
  · subst h0
    obtain ⟨a, c, rfl⟩ : ∃ a c, u = .slice a 0 c := by
      rcases hz.2 with ⟨e1, e2⟩ | ⟨g, cap, cur, e1, -⟩
      · exact ⟨none, 0, e1⟩
      · exact ⟨_, _, e1⟩
    refine (Any.slices_Sort_int_none Tryz.lays189 a c w).mono ?_
    rintro e w' ⟨rfl, rfl⟩
    exact ⟨rfl, by simpa using hz, hE⟩
  · have hu : u ≠ .slice none 0 0 := by
      rintro rfl
      rcases hz.2 with ⟨-, e2⟩ | ⟨g, cap, cur, e1, -⟩
      · exact h0 (List.eq_nil_of_length_eq_zero e2)
      · cases e1
    obtain ⟨g, cap, rfl, hg, hgl, hn, hm, -, hH⟩ := Lib.holds_of_ownsRow hz hu
    refine (Any.slices_Sort_int Tryz.lays189 g 0 cap zs w hH hgl (by omega)).mono ?_
    rintro e w' ⟨rfl, n, os, rfl⟩
    have hl : (zs.mergeSort fun x y => decide (x ≤ y)).length = zs.length := List.length_mergeSort _
    refine ⟨rfl, ?_, (ext_putRow hE (by omega) n _).trans (ext_grow _ os)⟩
    have := OwnN.put (q := n) hz rfl (zs.mergeSort fun x y => decide (x ≤ y)) [] (by simp) hl
    rw [hl] at this
    exact (ext_grow _ os).own this
theorem compactR_any (base : Nat) (w0 w : World) (hE : Ext w0 w) (hb : w0.heap.size ≤ base) (zs : List Int) (u : Value) (hz : OwnN 3 base w u zs) (hlen : zs.length ≤ 100000) :
    Calls Tryz.prog 36 #[u] w fun e w' => ∃ u', e = .returned u' ∧ OwnN 3 base w' u' (Lib.compact zs) ∧ Ext w0 w' := by
  by_cases h0 : zs = []
  · subst h0
    obtain ⟨a, c, rfl⟩ : ∃ a c, u = .slice a 0 c := by
      rcases hz.2 with ⟨e1, e2⟩ | ⟨g, cap, cur, e1, -⟩
      · exact ⟨none, 0, e1⟩
      · exact ⟨_, _, e1⟩
    refine (Any.slices_Compact_int_empty Tryz.lays2_20 a c w).mono ?_
    rintro e w' ⟨rfl, rfl⟩
    exact ⟨_, rfl, hz, hE⟩
  · have hu : u ≠ .slice none 0 0 := by
      rintro rfl
      rcases hz.2 with ⟨-, e2⟩ | ⟨g, cap, cur, e1, -⟩
      · exact h0 (List.eq_nil_of_length_eq_zero e2)
      · cases e1
    obtain ⟨g, cap, rfl, hg, hgl, hn, hm, -, hH⟩ := Lib.holds_of_ownsRow hz hu
    refine (Any.slices_Compact_int Tryz.lays2_20 g 0 cap zs w hH (by omega) hn).mono ?_
    rintro e w' ⟨rfl, q, rfl⟩
    have hcl : (Lib.compact zs).length ≤ zs.length := compact_le zs
    exact ⟨_, rfl, OwnN.put hz rfl _ _ rfl (by simp; omega), ext_putRow hE (by omega) q _⟩
theorem waitsF_no {l : List Nd} {i : Int} (h : placeF l i = false) : waitsF l i = [] := by unfold waitsF; rw [h]; rfl
theorem waitsF_at {l : List Nd} {j : Nat} (hj : j < l.length) : waitsF l (j : Int) = Lib.compact ((l[j].after.filter (fun a => !doneF l a)).mergeSort fun x y => decide (x ≤ y)) := by
  unfold waitsF
  rw [nthF_at hj, placeF_both.2 ⟨by omega, by omega⟩]
  rfl
set_option maxRecDepth 100000 in
set_option maxHeartbeats 4000000 in
theorem waits_any (l : List Nd) (hl : ∀ n, n ∈ l → n.after.length ≤ 100000) (i : Int) (w : World) (v : Value) (h : ndE.Row w l v) :
    Calls Tryz.prog 13 #[v, .int .i64 i] w fun e w' => ∃ v', e = .returned v' ∧ OwnN 3 w.heap.size w' v' (waitsF l i) ∧ Ext w w' := by
  have HP := Lib.hid (fun X (hX : Ext w X) => rdplace_any l i X _ (h.ext hX))
  cases hp : placeF l i with
  | false =>
    have HX := Lib.hid (waitsF_no hp)
    rw [hp] at HP
    obtain ⟨a, c, rfl, -, -⟩ := h.slice
    have HE := Lib.hid ((Ext.refl w).alloc (.cells #[.slice a l.length c] 23))
    clear h
    go_enter Tryz.func13, Tryz.ntmps13
    go_wp2_with fail
    refine (HP.out _ HE.out).mono ?_
    rintro e w1 ⟨rfl, rfl⟩
    go_wp2
    go_ret
    exact ⟨_, rfl, by rw [HX.out]; exact OwnN.nil _ _ _, HE.out⟩
  | true =>
    obtain ⟨h0, h1⟩ := placeF_both.1 hp
    obtain ⟨j, rfl⟩ : ∃ j : Nat, (j : Int) = i := ⟨i.toNat, by omega⟩
    have hj : j < l.length := by omega
    rw [hp] at HP
    have HX := Lib.hid (waitsF_at hj)
    have haf : l[j].after.length ≤ 100000 := hl _ (List.getElem_mem hj)
    have HR := Lib.hid h
    obtain ⟨a, c, rfl, -, -⟩ := h.slice
    have hE1 := (Ext.refl w).alloc (.cells #[.slice a l.length c] 23)
    have hB1 := BoxL.new w [.slice a l.length c] 23
    obtain ⟨b, off, rfl, hb, aa, ma, ca, kk, N, s, d, ⟨-, -, -, -, -, -, x6, -⟩, hnv⟩ := nd_at16 (h.ext hE1) (Ext.refl _) j hj
    have hai : intE.Row (w.alloc (.cells #[.slice (some ⟨b, off, none⟩) l.length c] 23)) l[j].after (.slice aa ma ca) := by
      obtain ⟨a', m', c', k', N', S', d', e, h2, -⟩ := hnv
      injection e with e
      injection e with e
      simp only [ndCells, List.cons.injEq] at e
      rw [e.2.2.2.2.2.2.1]
      exact h2
    have HE1 := Lib.hid hE1
    have hzl : w.heap.size < (w.alloc (.cells #[.slice (some ⟨b, off, none⟩) l.length c] 23)).heap.size := by simp
    have hR1 := h.ext hE1
    obtain ⟨af, haf2⟩ : ∃ af, af = l[j].after := ⟨_, rfl⟩
    rw [← haf2] at hai haf HX
    obtain ⟨W1, hW1⟩ : ∃ W1, W1 = w.alloc (.cells #[.slice (some ⟨b, off, none⟩) l.length c] 23) := ⟨_, rfl⟩
    rw [← hW1] at hE1 hB1 hai HE1 hzl hR1 x6
    obtain ⟨BX, hBX⟩ : ∃ BX, BX = w.heap.size := ⟨_, rfl⟩
    rw [← hBX] at hB1 hzl
    have HW1 := Lib.hid hW1
    have HBX := Lib.hid hBX
    have hcb := hB1.cell 0 _ rfl
    have HR1 := Lib.hid hR1
    have HAI := Lib.hid hai
    have hi0 : (0 : Int) ≤ (j : Int) := by omega
    have hi1 : (j : Int) < (l.length : Int) := by omega
    have HZ := Lib.hid hzl
    have HSz := Lib.hid (show w.heap.size ≤ W1.heap.size from hE1.size)
    clear hnv hai h hE1 hp h0 h1 hW1 hBX haf2 hR1 hzl HR hb
    go_enter Tryz.func13, Tryz.ntmps13
    go_upto_region 1 with (fail)
    rw [← HW1.out, ← HBX.out]
    clear HW1
    go_wp2_with fail
    refine (HP.out _ HE1.out).mono ?_
    rintro e w1 ⟨rfl, rfl⟩
    go_wp2_with fail
    refine (cloneR_any af W1 _ HAI.out haf).mono ?_
    rintro e w2 ⟨u, rfl, ho, hE2⟩
    have HO := Lib.hid ho
    have HE2 := Lib.hid hE2
    clear ho hE2
    go_wp2_with fail
    refine (delI_any l W1 w2 HE2.out BX HZ.out _ HR1.out hcb af u HO.out haf).mono ?_
    rintro e w3 ⟨u3, rfl, ho, hE3⟩
    have HO3 := Lib.hid ho
    have HE3 := Lib.hid hE3
    have HL3 := Lib.hid (show (af.filter fun a => !doneF l a).length ≤ 100000 from Nat.le_trans (List.length_filter_le _ _) haf)
    clear ho hE3 HO HE2
    go_wp2_with fail
    refine (sortR_any W1.heap.size W1 w3 HE3.out (Nat.le_refl _) _ u3 HO3.out HL3.out).mono ?_
    rintro e w4 ⟨rfl, ho, hE4⟩
    have HO4 := Lib.hid ho
    have HE4 := Lib.hid hE4
    clear ho hE4 HO3 HE3
    go_wp2_with fail
    refine (compactR_any W1.heap.size W1 w4 HE4.out (Nat.le_refl _) _ u3 HO4.out (by rw [List.length_mergeSort]; exact HL3.out)).mono ?_
    rintro e w5 ⟨u5, rfl, ho, hE5⟩
    have HO5 := Lib.hid ho
    have HE5 := Lib.hid hE5
    clear ho hE5 HO4 HE4
    go_wp2
    go_ret
    exact ⟨_, rfl, by rw [HX.out]; exact ownsRow_mono HO5.out HSz.out, HE1.out.trans HE5.out⟩
end Go.Proofs.YtbciamploeejiaaGreatDoor

open Go.RowKit Go.Shelf
namespace Go.Proofs.YtbciamploeejiaaGreatDoor
open Go Go.Proofs Fm

set_option maxRecDepth 100000 in
set_option maxHeartbeats 1000000 in
theorem indexN_inv (l : List Int) (f : FuncId) (eg : ∀ args w, (callFunc f args).run Tryz.prog w = .ok (.enter f args) w) (caps : Array Value) (q : Nat → Bool) (J : Nat → World → Prop) (w : World) (v : Value) (h : intE.Row w l v) (hJ : ∀ i w', J i w' → Ext w w') (h0 : J 0 w)
    (hf : ∀ i (hi : i < l.length) w', J i w' → (∀ j, j < i → q j = false) → isI64 l[i] → Calls Tryz.prog f (#[.int .i64 l[i]] ++ caps) w' fun e w'' => e = .returned (.bool (q i)) ∧ J (i + 1) w'') :
    Calls Tryz.prog 50 #[v, .func (.func f) #[] caps] w (IdxPost l.length q J) := by
  obtain ⟨a, c, rfl, hlc, hcm⟩ := h.slice
  have HR := Lib.hid h
  have HF := Lib.hid hf
  have HJ := Lib.hid hJ
  have hlm : l.length ≤ 9223372036854775807 := by omega
  clear h hf hJ
  go_enter Tryz.func50, Tryz.ntmps50
  go_wp2_with fail
  go_loopw [8] (fun i wr => ∃ j : Nat, j ≤ l.length ∧ i = .int .i64 j ∧ Hid (J j wr) ∧ Hid (∀ k, k < j → q k = false)) (fun i _ => l.length - (intOf i).toNat)
  case atStart => exact ⟨0, by omega, rfl, Lib.hid h0, Lib.hid (fun k hk => by omega)⟩
  case round =>
    clear h0
    obtain ⟨j, hj, rfl, HJj, HQ⟩ := hrel
    by_cases hlt : j < l.length
    · obtain ⟨b, off, rfl, hb, c0, hs⟩ := int_at HR.out (HJ.out _ _ HJj.out) j hlt
      have HS := Lib.hid hs
      clear hs
      go_wp2_with fail
      refine (HF.out j hlt wr HJj.out HQ.out HS.out).mono ?_
      rintro e w1 ⟨rfl, hJ1⟩
      have HJ1 := Lib.hid hJ1
      clear hJ1 c0
      cases hq : q j with
      | true =>
        have HX : Hid (IdxPost l.length q J (.returned (.int .i64 (j : Int))) w1) := Lib.hid (.inl ⟨j, hlt, hq, HQ.out, rfl, HJ1.out⟩)
        clear hq
        go_wp2
        go_ret
        exact HX.out
      | false =>
        have HQ1 : Hid (∀ k, k < j + 1 → q k = false) := Lib.hid (fun k hk => by
          by_cases h : k = j
          · rw [h]; exact hq
          · exact HQ.out k (by omega))
        clear hq
        go_wp2
        go_roundw
        case rel => exact ⟨j + 1, by omega, by go_num, HJ1, HQ1⟩
        case measure => simp [intOf]; omega
    · obtain rfl : j = l.length := by omega
      have HX : Hid (IdxPost l.length q J (.returned (.int .i64 (-1))) wr) := Lib.hid (.inr ⟨HQ.out, rfl, HJj.out⟩)
      go_wp2
      go_ret
      exact HX.out
set_option maxRecDepth 100000 in
set_option maxHeartbeats 1000000 in
theorem hasN_inv (l : List Int) (f : FuncId) (eg : ∀ args w, (callFunc f args).run Tryz.prog w = .ok (.enter f args) w) (caps : Array Value) (q : Nat → Bool) (J : Nat → World → Prop) (w : World) (v : Value) (h : intE.Row w l v) (hJ : ∀ i w', J i w' → Ext w w') (h0 : J 0 w)
    (hf : ∀ i (hi : i < l.length) w', J i w' → (∀ j, j < i → q j = false) → isI64 l[i] → Calls Tryz.prog f (#[.int .i64 l[i]] ++ caps) w' fun e w'' => e = .returned (.bool (q i)) ∧ J (i + 1) w'') :
    Calls Tryz.prog 39 #[v, .func (.func f) #[] caps] w (HasPost l.length q J) := by
  have hC := indexN_inv l f eg caps q J w v h hJ h0 hf
  obtain ⟨a, c, rfl, hlc, hcm⟩ := h.slice
  have HC := Lib.hid hC
  clear h hf hJ hC h0
  go_enter Tryz.func39, Tryz.ntmps39
  go_wp2_with fail
  refine HC.out.mono ?_
  rintro e w1 (⟨i, hi, h1, h2, rfl, h3⟩ | ⟨h1, rfl, h3⟩)
  · have HX : Hid (HasPost l.length q J (.returned (.bool true)) w1) := Lib.hid (.inl ⟨i, hi, h1, h2, rfl, h3⟩)
    clear h1 h2 h3
    have h0 : (0 : Int) ≤ (i : Int) := by omega
    go_wp2
    go_ret
    exact HX.out
  · have HX : Hid (HasPost l.length q J (.returned (.bool false)) w1) := Lib.hid (.inr ⟨h1, rfl, h3⟩)
    clear h1 h3
    go_wp2
    go_ret
    exact HX.out
/-- Where the world only grows. -/
theorem hasN_any (l : List Int) (f : FuncId) (eg : ∀ args w, (callFunc f args).run Tryz.prog w = .ok (.enter f args) w) (caps : Array Value) (q : Nat → Bool) (w : World) (v : Value) (h : intE.Row w l v)
    (hf : ∀ i (hi : i < l.length) w', Ext w w' → isI64 l[i] → Calls Tryz.prog f (#[.int .i64 l[i]] ++ caps) w' fun e w'' => e = .returned (.bool (q i)) ∧ Ext w' w'') :
    Calls Tryz.prog 39 #[v, .func (.func f) #[] caps] w fun e w' => ∃ b, e = .returned (.bool b) ∧ (b = true ↔ ∃ i, i < l.length ∧ q i = true) ∧ Ext w w' := by
  refine (hasN_inv l f eg caps q (fun _ => Ext w) w v h (fun _ _ h => h) (Ext.refl w) (fun i hi w' hE _ hs => (hf i hi w' hE hs).mono fun e w'' ⟨a, b⟩ => ⟨a, hE.trans b⟩)).mono ?_
  rintro e w' (⟨i, hi, h1, h2, rfl, hE⟩ | ⟨h1, rfl, hE⟩)
  · exact ⟨true, rfl, ⟨fun _ => ⟨i, hi, h1⟩, fun _ => rfl⟩, hE⟩
  · exact ⟨false, rfl, ⟨(fun h => by cases h), (fun ⟨i, hi, h⟩ => by rw [h1 i hi] at h; cases h)⟩, hE⟩

end Go.Proofs.YtbciamploeejiaaGreatDoor
