/- slices.Clone at []Node and []int out of the shelf. -/
import Derived.Shelf.SlicesE.Clone
import Derived.Test.YtdienbcjfljjnaaDoorSnK
import Derived.Test.YtdienbcjfljjnaaDoorPlX
open Go.RowKit Go.Shelf
namespace Go.Proofs
def Tryd.cloneN_ren : Go.Shelf.Ren := ⟨fun | 41 => 45 | n => n, fun | 22 => 24 | 23 => 47 | 4 => 4 | n => n, fun | n => n⟩
theorem Tryd.cloneN : SlLaysE0.n41 Tryd.prog Tryd.cloneN_ren := {
  mixed := by kernel_rfl
  f41 := ⟨Tryd.f45.name, by kernel_rfl, Tryd.func45.trans (congrArg some (by kernel_rfl))⟩
  t4 := Tryd.underlying4
  a4 := Tryd.isAgg4
  z4 := Tryd.sizeOf4
  v4 := Tryd.zeroValue4
  t22 := Tryd.underlying24
  a22 := Tryd.isAgg24
  z22 := Tryd.sizeOf24
  v22 := Tryd.zeroValue24 }
def Tryd.cloneI_ren : Go.Shelf.Ren := ⟨fun | 41 => 46 | n => n, fun | 22 => 42 | 23 => 3 | 4 => 4 | n => n, fun | n => n⟩
theorem Tryd.cloneI : SlLaysE0.n41 Tryd.prog Tryd.cloneI_ren := {
  mixed := by kernel_rfl
  f41 := ⟨Tryd.f46.name, by kernel_rfl, Tryd.func46.trans (congrArg some (by kernel_rfl))⟩
  t4 := Tryd.underlying4
  a4 := Tryd.isAgg4
  z4 := Tryd.sizeOf4
  v4 := Tryd.zeroValue4
  t22 := Tryd.underlying42
  a22 := Tryd.isAgg42
  z22 := Tryd.sizeOf42
  v22 := Tryd.zeroValue42 }
end Go.Proofs
namespace Go.Proofs.YtdienbcjfljjnaaDoor
open Go Go.Proofs Fm

theorem info_intP : ∃ i, Tryd.prog.info? 3 = some i ∧ i.zero = some (.int .i64 0) ∧ i.size = 1 ∧ i.bytes = 8 := by
  have h : (Tryd.prog.info? 3).map (fun i => (i.zero, i.size, i.bytes)) = some (some (.int .i64 0), 1, 8) := by kernel_rfl
  exact info_parts h
set_option maxHeartbeats 2000000 in
set_option maxRecDepth 100000 in
theorem cloneI_zero (ad : Addr) (c : Nat) (w : World) :
    Calls Tryd.prog 46 #[.slice (some ad) 0 c] w fun e w' => ∃ v', e = .returned v' ∧ w'.ownsRow w.heap.size 3 1 v' 0 [] ∧ Ext w w' := by
  have q22 : ∀ (w : World) (a : Option Addr) (n c n' c' : Nat), (binOp .eql 42 (.slice a n c) (.slice none n' c')).run Tryd.prog w = .ok (.bool a.isNone) w := fun w a n c n' c' => Lib.run_eql_slice_nil w _ _ a n c n' c' Tryd.underlying42
  obtain ⟨i0, hi, hz0, hz1, hz2⟩ := info_intP
  go_enter Tryd.func46, Tryd.ntmps46
  go_wp2_with (at_builtin; refine wpList_append_own _ rfl _ _ 42 rfl w.heap.size 3 i0 _ 1 8 Tryd.underlying42 hi hz0 hz1 hz2 rfl (by omega) _ _ _ rfl (World.ownsRow_made w #[] 0 (Nat.le_refl _) (Nat.zero_le _) (by simp)) ad 0 c [] rfl (by simp) (fun j u hj => by simp at hj) (fun u hu => by cases hu) (by unfold maxLen; omega) (by omega) (by simp) ?_)
  intro v' w1 hown hgrow hnil
  go_wp2
  go_ret
  exact ⟨v', rfl, by simpa using hown, ((Ext.refl w).alloc _).grown hgrow (by intro k hk; simp [Value.ownBlock] at hk; omega)⟩
set_option maxHeartbeats 2000000 in
set_option maxRecDepth 100000 in
theorem cloneN_zero (ad : Addr) (c : Nat) (w : World) :
    Calls Tryd.prog 45 #[.slice (some ad) 0 c] w fun e w' => ∃ v', e = .returned v' ∧ w'.ownsRow w.heap.size 47 16 v' 0 [] ∧ Ext w w' := by
  have q22 : ∀ (w : World) (a : Option Addr) (n c n' c' : Nat), (binOp .eql 24 (.slice a n c) (.slice none n' c')).run Tryd.prog w = .ok (.bool a.isNone) w := fun w a n c n' c' => Lib.run_eql_slice_nil w _ _ a n c n' c' Tryd.underlying24
  obtain ⟨i0, hi, hz0, hz1, hz2⟩ := info_node16
  go_enter Tryd.func45, Tryd.ntmps45
  go_wp2_with (at_builtin; refine wpList_append_own _ rfl _ _ 24 rfl w.heap.size 47 i0 _ 16 184 Tryd.underlying24 hi hz0 hz1 hz2 rfl (by omega) _ _ _ rfl (World.ownsRow_made w #[] 0 (Nat.le_refl _) (Nat.zero_le _) (by simp)) ad 0 c [] rfl (by simp) (fun j u hj => by simp at hj) (fun u hu => by cases hu) (by unfold maxLen; omega) (by omega) (by simp) ?_)
  intro v' w1 hown hgrow hnil
  go_wp2
  go_ret
  exact ⟨v', rfl, by simpa using hown, ((Ext.refl w).alloc _).grown hgrow (by intro k hk; simp [Value.ownBlock] at hk; omega)⟩

theorem cloneI_any (l : List Int) (w : World) (v : Value) (hv : intE.Row w l v) (hl : l.length ≤ 100000) :
    Calls Tryd.prog 46 #[v] w fun e w' => ∃ v', e = .returned v' ∧ OwnN 3 w.heap.size w' v' l ∧ Ext w w' := by
  obtain ⟨a, c, rfl, hc, -⟩ := hv.slice
  cases a with
  | none =>
    have hl0 : l = [] := by
      cases hx : l with
      | nil => rfl
      | cons y r =>
        obtain ⟨_, b, off, h, _⟩ := hv.at (by rw [hx]; simp)
        cases h
    subst hl0
    refine (AnyE.slices_Clone_nil Tryd.cloneI _ _ w).mono ?_
    rintro e w' ⟨rfl, rfl⟩
    exact ⟨_, rfl, OwnN.nil _ _ _, Ext.refl _⟩
  | some ad =>
    by_cases h0 : l.length = 0
    · have hs0 : l = [] := List.eq_nil_of_length_eq_zero h0
      subst hs0
      refine (cloneI_zero ad c w).mono ?_
      rintro e w' ⟨v', rfl, h1, h2⟩
      exact ⟨v', rfl, h1, h2⟩
    · obtain ⟨-, b, off, hab, hb, hat⟩ := hv.at (by omega)
      injection hab with hab
      subst hab
      obtain ⟨i0, hi, hz0, hz1, hz2⟩ := info_intP
      refine (AnyE.slices_Clone Tryd.cloneI i0 _ 1 8 hi hz0 hz1 hz2 rfl (by omega) Tryd.sizeOf3 b off l.length c (l.map (Value.int .i64)) w (by simp) (by unfold maxLen; omega) (by omega) (fun j u hu => ?_) (fun u hu => ?_)).mono ?_
      · obtain ⟨x, hx, rfl⟩ := List.mem_iff_getElem?.1 (List.mem_of_getElem? hu) |>.elim (fun _ _ => by
          rw [List.getElem?_map] at hu
          exact Option.map_eq_some_iff.1 hu)
        obtain ⟨hj, rfl⟩ := List.getElem?_eq_some_iff.1 hx
        obtain ⟨cc, hR, hcell⟩ := hat j hj
        have := hcell 0 (by decide) w (Ext.refl w)
        rw [show off + j = off + (j * intE.sz + 0) by show off + j = off + (j * 1 + 0); omega, this, hR.1]
      · simp only [List.mem_map] at hu
        obtain ⟨x, -, rfl⟩ := hu
        rfl
      · rintro e w' ⟨v', rfl, h1, -, h2⟩
        exact ⟨v', rfl, h1, h2⟩

theorem cloneN_any (l : List Nd) (w0 w : World) (hE : Ext w0 w) (v : Value) (hv : ndE.Row w0 l v) (hl : l.length ≤ 100000) :
    Calls Tryd.prog 45 #[v] w fun e w' => ∃ v', e = .returned v' ∧ ShN 47 w0 w.heap.size w' v' l ∧ Ext w w' := by
  obtain ⟨a, c, rfl, hc, -⟩ := hv.slice
  cases a with
  | none =>
    have hl0 : l = [] := by
      cases hx : l with
      | nil => rfl
      | cons y r =>
        obtain ⟨_, b, off, h, _⟩ := hv.at (by rw [hx]; simp)
        cases h
    subst hl0
    refine (AnyE.slices_Clone_nil Tryd.cloneN _ _ w).mono ?_
    rintro e w' ⟨rfl, rfl⟩
    exact ⟨_, rfl, ⟨[], rfl, World.ownsRow_nil _ _ _ _, fun i hi => by simp at hi⟩, Ext.refl _⟩
  | some ad =>
    by_cases h0 : l.length = 0
    · have hs0 : l = [] := List.eq_nil_of_length_eq_zero h0
      subst hs0
      refine (cloneN_zero ad c w).mono ?_
      rintro e w' ⟨v', rfl, h1, h2⟩
      exact ⟨v', rfl, ⟨[], rfl, h1, fun i hi => by simp at hi⟩, h2⟩
    · obtain ⟨b, off, hab, hb, -⟩ := nd_at hv hE 0 (by omega)
      injection hab with hab
      subst hab
      obtain ⟨cs, hcl, hcs⟩ := list_of_all (P := fun i C => ∃ hi : i < l.length, ShNd w0 l[i] C ∧ ∀ j u, C[j]? = some u → w.cell? ⟨b, off + (i * 16 + j), none⟩ = some u) l.length (fun i hi => by
        obtain ⟨b2, off2, hab2, -, aa, m, cc, k, N, s, d, h1, h2⟩ := nd_at hv hE i hi
        injection hab2 with hab2
        injection hab2 with e1 e2
        subst e1 e2
        refine ⟨_, hi, ⟨aa, m, cc, k, N, s, d, rfl, h2, ?_⟩, h1⟩
        obtain ⟨kk, nn, ss, va, vm, vc, rfl, rfl, rfl, rfl⟩ := h2.four
        exact ndCells_one)
      have h16 : ∀ C, C ∈ cs → C.length = 16 := fun C hC => by
        obtain ⟨i, hi, rfl⟩ := List.getElem_of_mem hC
        obtain ⟨_, ⟨_, _, _, _, _, _, _, e, _⟩, _⟩ := hcs i hi
        rw [e]; rfl
      have hfl := flat16_all cs h16
      obtain ⟨i0, hi, hz0, hz1, hz2⟩ := info_node16
      refine (AnyE.slices_Clone Tryd.cloneN i0 _ 16 184 hi hz0 hz1 hz2 rfl (by omega) Tryd.sizeOf47 b off l.length c cs.flatten w (by rw [hfl, hcl]) (by unfold maxLen; omega) (by omega) (fun j u hu => ?_) (fun u hu => ?_)).mono ?_
      · have hj : j < cs.flatten.length := (List.getElem?_eq_some_iff.1 hu).1
        have hji : j / 16 < cs.length := by omega
        have e := flat16 cs (j / 16) (j % 16) hji h16 (Nat.mod_lt _ (by omega))
        rw [show j / 16 * 16 + j % 16 = j by omega] at e
        obtain ⟨_, _, hq⟩ := hcs (j / 16) hji
        have := hq (j % 16) u (by rw [← e]; exact hu)
        rw [show j / 16 * 16 + j % 16 = j by omega] at this
        exact this
      · obtain ⟨C, hC, huC⟩ := List.mem_flatten.1 hu
        obtain ⟨i, hi, rfl⟩ := List.getElem_of_mem hC
        obtain ⟨_, ⟨_, _, _, _, _, _, _, _, _, h⟩, _⟩ := hcs i hi
        exact h u huC
      · rintro e w' ⟨v', rfl, h1, -, h2⟩
        exact ⟨v', rfl, ⟨cs, hcl, h1, fun i hi hc => (hcs i hc).2.1⟩, h2⟩
end Go.Proofs.YtdienbcjfljjnaaDoor
