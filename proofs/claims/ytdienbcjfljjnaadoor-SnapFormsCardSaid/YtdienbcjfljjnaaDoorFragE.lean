/- Walks: slices.Equal at []string, frag.same, slices.EqualFunc at []api.Item, frag.Same. -/
import Derived.Test.YtdienbcjfljjnaaDoorFrgA
import Derived.Test.YtdienbcjfljjnaaDoorVaA
open Go.RowKit Go.Shelf
namespace Go.Proofs.YtdienbcjfljjnaaDoor
open Go Go.Proofs Fm

theorem str_map_inj {l l' : List (List UInt8)} (h : l.map str = l'.map str) : l = l' := by
  induction l generalizing l' with
  | nil => cases l' with
    | nil => rfl
    | cons _ _ => cases h
  | cons s l ih => cases l' with
    | nil => cases h
    | cons s' l' =>
      rw [List.map_cons, List.map_cons] at h
      injection h with h1 h2
      rw [str_inj h1, ih h2]
theorem cells_texts {w : World} {l : List (List UInt8)} {b off n cap : Nat} (h : strE.Row w l (.slice (some ⟨b, off, none⟩) n cap)) : ∀ j, j < (l.map str).length → w.cell? ⟨b, off + j, none⟩ = some (.string ((l.map str).getD j ByteArray.empty)) := by
  intro j hj
  have hjl : j < l.length := by simpa using hj
  obtain ⟨b', off', e, _, hc, _⟩ := str_at h (Ext.refl w) j hjl
  injection e with e
  injection e with e1 e2 _
  subst e1 e2
  rw [hc]
  simp [hjl]
theorem equalS_any (l l' : List (List UInt8)) (w : World) (v x : Value) (h : strE.Row w l v) (h' : strE.Row w l' x) :
    Calls Tryd.prog 106 #[v, x] w fun e w' => e = .returned (.bool (decide (l = l'))) ∧ Ext w w' := by
  obtain ⟨a, c, rfl, hlc, hcm, hR⟩ := strRow_slice h
  obtain ⟨a', c', rfl, hlc', hcm', hR'⟩ := strRow_slice h'
  by_cases hl : l.length = l'.length
  · by_cases h0 : l.length = 0
    · have e1 : l = [] := List.eq_nil_of_length_eq_zero h0
      have e2 : l' = [] := List.eq_nil_of_length_eq_zero (by omega)
      subst e1 e2
      refine (Tryd.slices_Equal_string_empty a a' c 0 c' w (by omega)).mono ?_
      rintro e w1 ⟨rfl, rfl⟩
      exact ⟨rfl, Ext.refl _⟩
    · obtain ⟨b, off, rfl, _⟩ := str_at hR (Ext.refl w) 0 (by omega)
      obtain ⟨b', off', rfl, _⟩ := str_at hR' (Ext.refl w) 0 (by omega)
      refine (Tryd.slices_Equal_string b off l.length c b' off' l'.length c' (l.map str) (l'.map str) w (by simp) (by simp) (by omega) (by omega) (cells_texts hR) (cells_texts hR')).mono ?_
      rintro e w1 ⟨rfl, q, rfl⟩
      refine ⟨?_, (Ext.refl w).drewN q⟩
      have e1 : (l.map str).take l.length = l.map str := List.take_of_length_le (by simp)
      have e2 : (l'.map str).take l'.length = l'.map str := List.take_of_length_le (by simp)
      rw [e1, e2]
      congr 2
      rw [decide_eq_decide]
      exact ⟨str_map_inj, fun e => by rw [e]⟩
  · refine (Tryd.slices_Equal_string_lens a a' l.length c l'.length c' w hl).mono ?_
    rintro e w1 ⟨rfl, rfl⟩
    exact ⟨by rw [show decide (l = l') = false from decide_eq_false (fun e => hl (by rw [e]))], Ext.refl _⟩

theorem eqI_self (x : It) : eqI x x = true := eqI_iff.2 rfl
set_option maxRecDepth 100000 in
set_option maxHeartbeats 4000000 in
theorem fsame_any (x y : It) (w : World) (v u : Value) (hv : ItV w x v) (hu : ItV w y u) :
    Calls Tryd.prog 87 #[v, u] w fun e w' => e = .returned (.bool (eqI x y)) ∧ Ext w w' := by
  obtain ⟨a, m, c, rfl, hr, -, -, -, -⟩ := hv
  obtain ⟨a', m', c', rfl, hr', -, -, -, -⟩ := hu
  have hE0 : Ext w ((w.alloc (.cells #[.string (str x.name), .int .u8 (x.kind.toNat : Int), .slice a m c, .string (str x.over), .int .i64 x.width, .int .i64 x.quota] 107)).alloc (.cells #[.string (str y.name), .int .u8 (y.kind.toNat : Int), .slice a' m' c', .string (str y.over), .int .i64 y.width, .int .i64 y.quota] 107)) := ((Ext.refl w).alloc _).alloc _
  have HR := Lib.hid (hr.ext hE0)
  have HR' := Lib.hid (hr'.ext hE0)
  clear hr hr'
  have HB : Hid (BoxL ((w.alloc (.cells #[.string (str x.name), .int .u8 (x.kind.toNat : Int), .slice a m c, .string (str x.over), .int .i64 x.width, .int .i64 x.quota] 107)).alloc (.cells #[.string (str y.name), .int .u8 (y.kind.toNat : Int), .slice a' m' c', .string (str y.over), .int .i64 y.width, .int .i64 y.quota] 107)) w.heap.size [.string (str x.name), .int .u8 (x.kind.toNat : Int), .slice a m c, .string (str x.over), .int .i64 x.width, .int .i64 x.quota]) := Lib.hid (BoxL.ext (BoxL.new w [.string (str x.name), .int .u8 (x.kind.toNat : Int), .slice a m c, .string (str x.over), .int .i64 x.width, .int .i64 x.quota] 107) ((Ext.refl _).alloc _))
  have HB' : Hid (BoxL ((w.alloc (.cells #[.string (str x.name), .int .u8 (x.kind.toNat : Int), .slice a m c, .string (str x.over), .int .i64 x.width, .int .i64 x.quota] 107)).alloc (.cells #[.string (str y.name), .int .u8 (y.kind.toNat : Int), .slice a' m' c', .string (str y.over), .int .i64 y.width, .int .i64 y.quota] 107)) (w.heap.size + 1) [.string (str y.name), .int .u8 (y.kind.toNat : Int), .slice a' m' c', .string (str y.over), .int .i64 y.width, .int .i64 y.quota]) := Lib.hid (by
    have := BoxL.new (w.alloc (.cells #[.string (str x.name), .int .u8 (x.kind.toNat : Int), .slice a m c, .string (str x.over), .int .i64 x.width, .int .i64 x.quota] 107)) [.string (str y.name), .int .u8 (y.kind.toNat : Int), .slice a' m' c', .string (str y.over), .int .i64 y.width, .int .i64 y.quota] 107
    rwa [show (w.alloc (.cells #[.string (str x.name), .int .u8 (x.kind.toNat : Int), .slice a m c, .string (str x.over), .int .i64 x.width, .int .i64 x.quota] 107)).heap.size = w.heap.size + 1 by simp] at this)
  have ek : ((x.kind.toNat : Int) == (y.kind.toNat : Int)) = decide (x.kind = y.kind) := by rw [u8_eq]
  have es : ((str x.name).toList == (str y.name).toList) = decide (x.name = y.name) := str_beq _ _
  have eo : ((str x.over).toList == (str y.over).toList) = decide (x.over = y.over) := str_beq _ _
  by_cases hs : x.name = y.name
  case neg =>
    have HX := Lib.hid (eqI_ne (l := x) (m := y) (fun e => hs (by rw [e])))
    have f0 : ((str x.name).toList == (str y.name).toList) = false := by rw [es]; simpa using hs
    clear ek es eo hs
    go_enter Tryd.func87, Tryd.ntmps87
    go_wp2
    go_ret
    exact ⟨by rw [HX.out]; rfl, hE0⟩
  have f0 : ((str x.name).toList == (str y.name).toList) = true := by rw [es]; simpa using hs
  by_cases hk : x.kind = y.kind
  case neg =>
    have HX := Lib.hid (eqI_ne (l := x) (m := y) (fun e => hk (by rw [e])))
    have f1 : ((x.kind.toNat : Int) == (y.kind.toNat : Int)) = false := by rw [ek]; simpa using hk
    generalize (x.kind.toNat : Int) = K at *
    generalize (y.kind.toNat : Int) = K' at *
    clear ek es eo hs hk
    go_enter Tryd.func87, Tryd.ntmps87
    go_wp2
    go_ret
    exact ⟨by rw [HX.out]; rfl, hE0⟩
  have f1 : ((x.kind.toNat : Int) == (y.kind.toNat : Int)) = true := by rw [ek]; simpa using hk
  have HXX : Hid (eqI x y = true ↔ (x.after = y.after ∧ x.over = y.over ∧ x.width = y.width ∧ x.quota = y.quota)) := Lib.hid (by
    rw [eqI_iff]
    constructor
    · intro e; rw [e]; exact ⟨rfl, rfl, rfl, rfl⟩
    · rintro ⟨e1, e2, e3, e4⟩
      obtain ⟨n1, k1, a1, o1, w1, q1⟩ := x
      obtain ⟨n2, k2, a2, o2, w2, q2⟩ := y
      simp only at hs hk e1 e2 e3 e4
      rw [hs, hk, e1, e2, e3, e4])
  clear hs hk ek es
  generalize (x.kind.toNat : Int) = K at *
  generalize (y.kind.toNat : Int) = K' at *
  go_enter Tryd.func87, Tryd.ntmps87
  go_wp2_with fail
  generalize ((w.alloc (.cells #[.string (str x.name), .int .u8 K, .slice a m c, .string (str x.over), .int .i64 x.width, .int .i64 x.quota] 107)).alloc (.cells #[.string (str y.name), .int .u8 K', .slice a' m' c', .string (str y.over), .int .i64 y.width, .int .i64 y.quota] 107)) = W0 at *
  refine (equalS_any x.after y.after W0 _ _ HR.out HR'.out).mono ?_
  rintro e w1 ⟨rfl, hE1⟩
  have HE1 := Lib.hid (hE0.trans hE1)
  obtain ⟨p0, p1, p2, p3, p4, p5⟩ := (HB.out.ext hE1).six
  obtain ⟨q0, q1, q2, q3, q4, q5⟩ := (HB'.out.ext hE1).six
  clear hE1 hE0
  by_cases ha : x.after = y.after
  case neg =>
    have HX := Lib.hid (show eqI x y = false by
      cases e : eqI x y with
      | false => rfl
      | true => exact absurd (HXX.out.1 e).1 ha)
    rw [show decide (x.after = y.after) = false from decide_eq_false ha]
    clear ha eo HXX
    go_wp2
    go_ret
    exact ⟨by rw [HX.out]; rfl, HE1.out⟩
  rw [show decide (x.after = y.after) = true from decide_eq_true ha]
  by_cases ho : x.over = y.over
  case neg =>
    have HX := Lib.hid (show eqI x y = false by
      cases e : eqI x y with
      | false => rfl
      | true => exact absurd (HXX.out.1 e).2.1 ho)
    have f2 : ((str x.over).toList == (str y.over).toList) = false := by rw [eo]; simpa using ho
    clear ha eo HXX ho
    go_wp2
    go_ret
    exact ⟨by rw [HX.out]; rfl, HE1.out⟩
  have f2 : ((str x.over).toList == (str y.over).toList) = true := by rw [eo]; simpa using ho
  by_cases hw : x.width = y.width
  case neg =>
    have HX := Lib.hid (show eqI x y = false by
      cases e : eqI x y with
      | false => rfl
      | true => exact absurd (HXX.out.1 e).2.2.1 hw)
    have f3 : (x.width == y.width) = false := by simpa using hw
    clear ha eo HXX ho hw
    go_wp2
    go_ret
    exact ⟨by rw [HX.out]; rfl, HE1.out⟩
  have f3 : (x.width == y.width) = true := by simpa using hw
  by_cases hq : x.quota = y.quota
  case neg =>
    have HX := Lib.hid (show eqI x y = false by
      cases e : eqI x y with
      | false => rfl
      | true => exact absurd (HXX.out.1 e).2.2.2 hq)
    have f4 : (x.quota == y.quota) = false := by simpa using hq
    clear ha eo HXX ho hw hq
    go_wp2
    go_ret
    exact ⟨by rw [HX.out]; rfl, HE1.out⟩
  have HX := Lib.hid (HXX.out.2 ⟨ha, ho, hw, hq⟩)
  have f4 : (x.quota == y.quota) = true := by simpa using hq
  clear ha eo HXX ho hw hq
  go_wp2
  go_ret
  exact ⟨by rw [HX.out]; rfl, HE1.out⟩

theorem takeI_same {l m : List It} {i : Nat} (hi : i < l.length) (hm : i < m.length) (h : l.take i = m.take i) (hx : l[i] = m[i]) : l.take (i + 1) = m.take (i + 1) := by
  rw [List.take_add_one, List.take_add_one, h, List.getElem?_eq_getElem hi, List.getElem?_eq_getElem hm, hx]

set_option maxRecDepth 100000 in
set_option maxHeartbeats 4000000 in
theorem equalI_any (l l' : List It) (w : World) (v x : Value) (hv : itE.Row w l v) (hx : itE.Row w l' x) :
    Calls Tryd.prog 86 #[v, x, .func (.func 87) #[] #[]] w fun e w' => e = .returned (.bool (eqF l l')) ∧ Ext w w' := by
  obtain ⟨a, cap, rfl, h1, h2⟩ := hv.slice
  obtain ⟨a', cap', rfl, h1', h2'⟩ := hx.slice
  have HR := Lib.hid hv
  have HR' := Lib.hid hx
  have hll : l.length ≤ 9223372036854775807 := by omega
  have hll' : l'.length ≤ 9223372036854775807 := by omega
  clear hv hx h1 h2 h1' h2'
  by_cases hl : l.length = l'.length
  · have f3 : ((l.length : Int) != (l'.length : Int)) = false := by rw [hl]; simp
    have HL := Lib.hid hl
    clear hl
    go_enter Tryd.func86, Tryd.ntmps86
    go_wp2_with fail
    clear f3
    go_loopw [17] (fun i wr => ∃ j : Nat, j ≤ l.length ∧ i = .int .i64 j ∧ Hid (l.take j = l'.take j) ∧ Ext w wr) (fun i _ => l.length - (intOf i).toNat)
    case atStart => exact ⟨0, by omega, rfl, by simp [Hid], Ext.refl _⟩
    case round =>
      obtain ⟨j, hj, rfl, HA, hE⟩ := hrel
      by_cases hlt : j < l.length
      · have hlt' : j < l'.length := by have := HL.out; omega
        obtain ⟨b, off, rfl, hb, aa, m, cc, c0, c1, c2, c3, c4, c5, hs⟩ := it_at HR.out hE j hlt
        obtain ⟨b', off', rfl, hb', aa', m', cc', d0, d1, d2, d3, d4, d5, hs'⟩ := it_at HR'.out hE j hlt'
        have hz := Nat.lt_of_lt_of_le hb hE.size
        have hz' := Nat.lt_of_lt_of_le hb' hE.size
        have HS := Lib.hid (hs.ext hE)
        have HS' := Lib.hid (hs'.ext hE)
        clear hs hs'
        go_wp2_with fail
        refine (fsame_any _ _ _ _ _ (HS.out.ext (((Ext.refl wr).alloc _).alloc _)) (HS'.out.ext (((Ext.refl wr).alloc _).alloc _))).mono ?_
        rintro e w1 ⟨rfl, hE1⟩
        have hE3 := ((hE.alloc _).alloc _).trans hE1
        cases hkx : eqI l[j] l'[j] with
        | true =>
          have HA2 := Lib.hid (takeI_same hlt hlt' HA.out (eqI_iff.1 hkx))
          clear hE1 c0 c1 c2 c3 c4 c5 d0 d1 d2 d3 d4 d5 hb HA hkx hb' HS HS'
          go_wp2
          go_roundw
          case rel => exact ⟨j + 1, by omega, by go_num, HA2, hE3⟩
          case measure => simp [intOf]; omega
        | false =>
          have HA2 := Lib.hid (eqF_ne (l := l) (m := l') (fun e => by subst e; rw [eqI_self] at hkx; cases hkx))
          clear hE1 c0 c1 c2 c3 c4 c5 d0 d1 d2 d3 d4 d5 hb HA hkx hb' HS HS'
          go_wp2
          go_ret
          exact ⟨by rw [HA2.out]; rfl, hE3⟩
      · have hj' : j = l.length := by omega
        have HA2 : Hid (eqF l l' = true) := Lib.hid (eqF_iff.2 (by have := HA.out; rw [hj', List.take_length, HL.out, List.take_length] at this; exact this))
        clear hj'
        go_wp2
        go_ret
        exact ⟨by rw [HA2.out]; rfl, hE⟩
  · have f3 : ((l.length : Int) != (l'.length : Int)) = true := by rw [bne, Bool.not_eq_true']; simp; omega
    have HX := Lib.hid (eqF_ne (l := l) (m := l') (fun e => hl (by rw [e])))
    clear hl
    go_enter Tryd.func86, Tryd.ntmps86
    go_wp2
    go_ret
    exact ⟨by rw [HX.out]; rfl, Ext.refl w⟩

theorem fSame_any (l l' : List It) (w : World) (v x : Value) (hv : itE.Row w l v) (hx : itE.Row w l' x) :
    Calls Tryd.prog 57 #[v, x] w fun e w' => e = .returned (.bool (eqF l l')) ∧ Ext w w' := by
  have HC := Lib.hid (equalI_any l l' w v x hv hx)
  obtain ⟨a, cap, rfl, -⟩ := hv.slice
  obtain ⟨a', cap', rfl, -⟩ := hx.slice
  clear hv hx
  go_enter Tryd.func57, Tryd.ntmps57
  go_wp2_with fail
  refine HC.out.mono ?_
  rintro e w1 ⟨rfl, hE⟩
  go_wp2
  go_ret
  exact ⟨rfl, hE⟩
end Go.Proofs.YtdienbcjfljjnaaDoor
