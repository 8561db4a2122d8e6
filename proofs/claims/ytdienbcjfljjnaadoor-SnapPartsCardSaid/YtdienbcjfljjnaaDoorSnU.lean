/- Walks: a node of a copy is changed in one thing. -/
import Derived.Test.YtdienbcjfljjnaaDoorPlX
import Derived.Test.YtdienbcjfljjnaaDoorSnK
import Derived.Test.YtdienbcjfljjnaaDoorSnL
import Derived.Test.YtdienbcjfljjnaaDoorTake
open Go.RowKit Go.Shelf
namespace Go.Proofs.YtdienbcjfljjnaaDoor
open Go Go.Proofs Fm

theorem strz_ (s : List UInt8) : str s ++ { data := #[122] } = str (s ++ [122]) := by
  unfold str
  apply ByteArray.ext
  simp
theorem i64wrapped_ (n : Int) : isI64 (wrap64 n) := by
  have e : wrap64 n = IntKind.i64.wrap n := (IntWalk.i64_left _).symm
  rw [e, IntKind.wrap_i64]; unfold isI64; omega
theorem wrapne_ {n : Int} (h : isI64 n) : wrap64 (n + 1) ≠ n := by
  have e : wrap64 (n + 1) = IntKind.i64.wrap (n + 1) := (IntWalk.i64_left _).symm
  unfold isI64 at h
  rw [e, IntKind.wrap_i64]; omega
theorem infoint_ : (Tryd.prog.info? 3).map (fun i => (i.zero, i.size, i.bytes)) = some (some (.int .i64 0), 1, 8) := by kernel_rfl
theorem elemint_ : ElemOf Tryd.prog 42 3 (.int .i64 0) 1 8 := ⟨Tryd.underlying42, infoint_, rfl, by decide⟩

set_option maxRecDepth 100000 in
set_option maxHeartbeats 8000000 in
theorem nturn_any (w : World) (base top g cap i p : Nat) (l : List Nd) (O : Nat → Prop) (h : CopyT 47 3 45 base top w (.slice (some ⟨g, 0, none⟩) l.length cap) l) (hi : i < l.length)
    (hO : ∀ b, base ≤ b → b < top → O b ∧ b ≠ p) (hN : ∀ b, w.heap.size ≤ b → O b ∧ b ≠ p) (hb0 : base ≤ w.heap.size) (K : Nat) (hK : 8 ≤ K) (hK2 : K < 20) (hs1 : l[i].id.length ≤ 500) (hs2 : l[i].name.length ≤ 100) (hs3 : l[i].after.length ≤ 40) :
    Calls Tryd.prog 48 #[.pointer (some ⟨g, i * 16, none⟩), .int .u8 (K : Int)] w fun e w' => e = .returned (.bool true) ∧ ∃ n', n' ≠ l[i] ∧ RigN 47 O p w' (.slice (some ⟨g, 0, none⟩) l.length cap) (l.set i n') ∧ Keep O w w' := by
  obtain ⟨a, m, c, k, N, s, d, hv, hcell, hfz, hg1, hg2, hg3, hown, hblk, hfin⟩ := h.at hi
  obtain ⟨kk, nn, ss, va, vm, vc, rfl, rfl, rfl, rfl⟩ := hv.four
  have hwf := hv.wf
  obtain ⟨a', m', c', k', N', s', l', hv1, -, hl, -⟩ := hv
  simp only [ndCells] at hv1
  injection hv1 with hv1
  injection hv1 with hv1
  simp only [List.cons.injEq, and_true] at hv1
  obtain ⟨-, -, -, -, -, -, -, -, -, -, -, -, rfl, rfl, rfl, rfl⟩ := hv1
  obtain ⟨x, hx⟩ : ∃ x, x = l[i] := ⟨_, rfl⟩
  rw [← hx] at hcell hown hfin hwf hl hs1 hs2 hs3 ⊢
  obtain ⟨y1, y2, y3, y4, y5, y6, y7, y8, y9, y10, y11⟩ := hwf
  have HX := Lib.hid hx
  clear hx
  have c0 : w.cell? ⟨g, i * 16, none⟩ = some (.string (str x.id)) := hcell 0 _ rfl
  have f0 : w.frozen? ⟨g, i * 16, none⟩ = false := hfz _
  have c1 : w.cell? ⟨g, i * 16 + 1, none⟩ = some (.string (str x.name)) := hcell 1 _ rfl
  have f1 : w.frozen? ⟨g, i * 16 + 1, none⟩ = false := hfz _
  have c2 : w.cell? ⟨g, i * 16 + 2, none⟩ = some (.int .u8 (x.kind.toNat : Int)) := hcell 2 _ rfl
  have f2 : w.frozen? ⟨g, i * 16 + 2, none⟩ = false := hfz _
  have c3 : w.cell? ⟨g, i * 16 + 3, none⟩ = some (.int .i64 x.flow) := hcell 3 _ rfl
  have f3 : w.frozen? ⟨g, i * 16 + 3, none⟩ = false := hfz _
  have c4 : w.cell? ⟨g, i * 16 + 4, none⟩ = some (.int .i64 x.owner) := hcell 4 _ rfl
  have f4 : w.frozen? ⟨g, i * 16 + 4, none⟩ = false := hfz _
  have c5 : w.cell? ⟨g, i * 16 + 5, none⟩ = some (.int .i64 x.place) := hcell 5 _ rfl
  have f5 : w.frozen? ⟨g, i * 16 + 5, none⟩ = false := hfz _
  have c6 : w.cell? ⟨g, i * 16 + 6, none⟩ = some (.slice a m c) := hcell 6 _ rfl
  have f6 : w.frozen? ⟨g, i * 16 + 6, none⟩ = false := hfz _
  have c7 : w.cell? ⟨g, i * 16 + 7, none⟩ = some (.int .i64 x.width) := hcell 7 _ rfl
  have f7 : w.frozen? ⟨g, i * 16 + 7, none⟩ = false := hfz _
  have c8 : w.cell? ⟨g, i * 16 + 8, none⟩ = some (.int .i64 x.quota) := hcell 8 _ rfl
  have f8 : w.frozen? ⟨g, i * 16 + 8, none⟩ = false := hfz _
  have c9 : w.cell? ⟨g, i * 16 + 9, none⟩ = some (.int .u8 (x.stand.toNat : Int)) := hcell 9 _ rfl
  have f9 : w.frozen? ⟨g, i * 16 + 9, none⟩ = false := hfz _
  have c10 : w.cell? ⟨g, i * 16 + 10, none⟩ = some (.int .i64 x.fails) := hcell 10 _ rfl
  have f10 : w.frozen? ⟨g, i * 16 + 10, none⟩ = false := hfz _
  have c13 : w.cell? ⟨g, i * 16 + 12 + 1, none⟩ = some (.int .i64 nn) := hcell 13 _ rfl
  have f13 : w.frozen? ⟨g, i * 16 + 12 + 1, none⟩ = false := hfz _
  clear hcell hfz
  go_enter Tryd.func48, Tryd.ntmps48
  rcases (by omega : K = 8 ∨ K = 9 ∨ K = 10 ∨ K = 11 ∨ K = 12 ∨ K = 13 ∨ K = 14 ∨ K = 15 ∨ K = 16 ∨ K = 17 ∨ K = 18 ∨ K = 19) with rfl | rfl | rfl | rfl | rfl | rfl | rfl | rfl | rfl | rfl | rfl | rfl
  · have hzz := strz_ x.id
    have hzs := str_size x.id
    have hput := h.put hi 0 (by omega) (.string (str (x.id ++ [122]))) ⟨x.id ++ [122], x.name, x.kind, x.flow, x.owner, x.place, x.after, x.width, x.quota, x.stand, x.fails, x.tok, x.val⟩ (fun p q D hD => by
      obtain ⟨a, m, c, k, N, S, d, F, rfl, k1, k2, k3, k4, k5⟩ := hD
      obtain ⟨y1, y2, y3, y4, y5, y6, y7, y8, y9, y10, y11⟩ := k5
      exact ⟨a, m, c, k, N, S, d, F, by rw [← HX.out]; rfl, by rw [← HX.out] at k1; exact k1, k2, by rw [← HX.out] at k3; exact k3, k4, by rw [← HX.out] at *; exact ⟨by simp only [List.length_append, List.length_singleton]; omega, y2, y3, y4, y5, y6, y7, y8, y9, y10, y11⟩⟩)
    have hne : ⟨x.id ++ [122], x.name, x.kind, x.flow, x.owner, x.place, x.after, x.width, x.quota, x.stand, x.fails, x.tok, x.val⟩ ≠ x := by intro e; have e := congrArg Nd.id e; have := congrArg List.length e; simp at this
    have HQ : Hid (RigN 47 O p (w.setCell ⟨g, i * 16, none⟩ (.string (str (x.id ++ [122])))) (.slice (some ⟨g, 0, none⟩) l.length cap) (l.set i ⟨x.id ++ [122], x.name, x.kind, x.flow, x.owner, x.place, x.after, x.width, x.quota, x.stand, x.fails, x.tok, x.val⟩) ∧ Keep O w (w.setCell ⟨g, i * 16, none⟩ (.string (str (x.id ++ [122]))))) := Lib.hid ⟨hput.1.rig hO, (Keep.refl O w).grown hput.2 (fun k hk => by injection hk with hk; rw [← hk]; exact (hO g hg1 hg2).1)⟩
    have HN := Lib.hid hne
    clear hput hne h
    go_wp2_with fail
    go_ret
    exact ⟨rfl, _, HN.out, HQ.out⟩
  · have hzz := strz_ x.name
    have hzs := str_size x.name
    have hput := h.put hi 1 (by omega) (.string (str (x.name ++ [122]))) ⟨x.id, x.name ++ [122], x.kind, x.flow, x.owner, x.place, x.after, x.width, x.quota, x.stand, x.fails, x.tok, x.val⟩ (fun p q D hD => by
      obtain ⟨a, m, c, k, N, S, d, F, rfl, k1, k2, k3, k4, k5⟩ := hD
      obtain ⟨y1, y2, y3, y4, y5, y6, y7, y8, y9, y10, y11⟩ := k5
      exact ⟨a, m, c, k, N, S, d, F, by rw [← HX.out]; rfl, by rw [← HX.out] at k1; exact k1, k2, by rw [← HX.out] at k3; exact k3, k4, by rw [← HX.out] at *; exact ⟨y1, by simp only [List.length_append, List.length_singleton]; omega, y3, y4, y5, y6, y7, y8, y9, y10, y11⟩⟩)
    have hne : ⟨x.id, x.name ++ [122], x.kind, x.flow, x.owner, x.place, x.after, x.width, x.quota, x.stand, x.fails, x.tok, x.val⟩ ≠ x := by intro e; have e := congrArg Nd.name e; have := congrArg List.length e; simp at this
    have HQ : Hid (RigN 47 O p (w.setCell ⟨g, i * 16 + 1, none⟩ (.string (str (x.name ++ [122])))) (.slice (some ⟨g, 0, none⟩) l.length cap) (l.set i ⟨x.id, x.name ++ [122], x.kind, x.flow, x.owner, x.place, x.after, x.width, x.quota, x.stand, x.fails, x.tok, x.val⟩) ∧ Keep O w (w.setCell ⟨g, i * 16 + 1, none⟩ (.string (str (x.name ++ [122]))))) := Lib.hid ⟨hput.1.rig hO, (Keep.refl O w).grown hput.2 (fun k hk => by injection hk with hk; rw [← hk]; exact (hO g hg1 hg2).1)⟩
    have HN := Lib.hid hne
    clear hput hne h
    go_wp2_with fail
    go_ret
    exact ⟨rfl, _, HN.out, HQ.out⟩
  · obtain ⟨KN, hKN⟩ : ∃ KN, KN = x.kind + 1 := ⟨_, rfl⟩
    have HKN := Lib.hid hKN
    have hku : ((x.kind.toNat : Int) + 1) % 256 = (KN.toNat : Int) := by rw [hKN, UInt8.toNat_add]; have h1 : (1 : UInt8).toNat = 1 := rfl; rw [h1]; omega
    clear hKN
    have hput := h.put hi 2 (by omega) (.int .u8 (KN.toNat : Int)) ⟨x.id, x.name, KN, x.flow, x.owner, x.place, x.after, x.width, x.quota, x.stand, x.fails, x.tok, x.val⟩ (fun p q D hD => by
      obtain ⟨a, m, c, k, N, S, d, F, rfl, k1, k2, k3, k4, k5⟩ := hD
      obtain ⟨y1, y2, y3, y4, y5, y6, y7, y8, y9, y10, y11⟩ := k5
      exact ⟨a, m, c, k, N, S, d, F, by rw [← HX.out]; rfl, by rw [← HX.out] at k1; exact k1, k2, by rw [← HX.out] at k3; exact k3, k4, by rw [← HX.out] at *; exact ⟨y1, y2, y3, y4, y5, y6, y7, y8, y9, y10, y11⟩⟩)
    have hne : ⟨x.id, x.name, KN, x.flow, x.owner, x.place, x.after, x.width, x.quota, x.stand, x.fails, x.tok, x.val⟩ ≠ x := by intro e; have e := congrArg Nd.kind e; have e := congrArg UInt8.toNat e; have e2 := congrArg UInt8.toNat HKN.out; rw [UInt8.toNat_add] at e2; have := x.kind.toNat_lt; have h1 : (1 : UInt8).toNat = 1 := rfl; dsimp only at e; omega
    have HQ : Hid (RigN 47 O p (w.setCell ⟨g, i * 16 + 2, none⟩ (.int .u8 (KN.toNat : Int))) (.slice (some ⟨g, 0, none⟩) l.length cap) (l.set i ⟨x.id, x.name, KN, x.flow, x.owner, x.place, x.after, x.width, x.quota, x.stand, x.fails, x.tok, x.val⟩) ∧ Keep O w (w.setCell ⟨g, i * 16 + 2, none⟩ (.int .u8 (KN.toNat : Int)))) := Lib.hid ⟨hput.1.rig hO, (Keep.refl O w).grown hput.2 (fun k hk => by injection hk with hk; rw [← hk]; exact (hO g hg1 hg2).1)⟩
    have HN := Lib.hid hne
    clear hput hne h
    go_wp2_with fail
    go_ret
    exact ⟨rfl, _, HN.out, HQ.out⟩
  · have hput := h.put hi 3 (by omega) (.int .i64 (wrap64 (x.flow + 1))) ⟨x.id, x.name, x.kind, wrap64 (x.flow + 1), x.owner, x.place, x.after, x.width, x.quota, x.stand, x.fails, x.tok, x.val⟩ (fun p q D hD => by
      obtain ⟨a, m, c, k, N, S, d, F, rfl, k1, k2, k3, k4, k5⟩ := hD
      obtain ⟨y1, y2, y3, y4, y5, y6, y7, y8, y9, y10, y11⟩ := k5
      exact ⟨a, m, c, k, N, S, d, F, by rw [← HX.out]; rfl, by rw [← HX.out] at k1; exact k1, k2, by rw [← HX.out] at k3; exact k3, k4, by rw [← HX.out] at *; exact ⟨y1, y2, i64wrapped_ _, y4, y5, y6, y7, y8, y9, y10, y11⟩⟩)
    have hne : ⟨x.id, x.name, x.kind, wrap64 (x.flow + 1), x.owner, x.place, x.after, x.width, x.quota, x.stand, x.fails, x.tok, x.val⟩ ≠ x := by intro e; have e := congrArg Nd.flow e; exact wrapne_ y3 e
    have HQ : Hid (RigN 47 O p (w.setCell ⟨g, i * 16 + 3, none⟩ (.int .i64 (wrap64 (x.flow + 1)))) (.slice (some ⟨g, 0, none⟩) l.length cap) (l.set i ⟨x.id, x.name, x.kind, wrap64 (x.flow + 1), x.owner, x.place, x.after, x.width, x.quota, x.stand, x.fails, x.tok, x.val⟩) ∧ Keep O w (w.setCell ⟨g, i * 16 + 3, none⟩ (.int .i64 (wrap64 (x.flow + 1))))) := Lib.hid ⟨hput.1.rig hO, (Keep.refl O w).grown hput.2 (fun k hk => by injection hk with hk; rw [← hk]; exact (hO g hg1 hg2).1)⟩
    have HN := Lib.hid hne
    clear hput hne h
    go_wp2_with fail
    go_ret
    exact ⟨rfl, _, HN.out, HQ.out⟩
  · have hput := h.put hi 4 (by omega) (.int .i64 (wrap64 (x.owner + 1))) ⟨x.id, x.name, x.kind, x.flow, wrap64 (x.owner + 1), x.place, x.after, x.width, x.quota, x.stand, x.fails, x.tok, x.val⟩ (fun p q D hD => by
      obtain ⟨a, m, c, k, N, S, d, F, rfl, k1, k2, k3, k4, k5⟩ := hD
      obtain ⟨y1, y2, y3, y4, y5, y6, y7, y8, y9, y10, y11⟩ := k5
      exact ⟨a, m, c, k, N, S, d, F, by rw [← HX.out]; rfl, by rw [← HX.out] at k1; exact k1, k2, by rw [← HX.out] at k3; exact k3, k4, by rw [← HX.out] at *; exact ⟨y1, y2, y3, i64wrapped_ _, y5, y6, y7, y8, y9, y10, y11⟩⟩)
    have hne : ⟨x.id, x.name, x.kind, x.flow, wrap64 (x.owner + 1), x.place, x.after, x.width, x.quota, x.stand, x.fails, x.tok, x.val⟩ ≠ x := by intro e; have e := congrArg Nd.owner e; exact wrapne_ y4 e
    have HQ : Hid (RigN 47 O p (w.setCell ⟨g, i * 16 + 4, none⟩ (.int .i64 (wrap64 (x.owner + 1)))) (.slice (some ⟨g, 0, none⟩) l.length cap) (l.set i ⟨x.id, x.name, x.kind, x.flow, wrap64 (x.owner + 1), x.place, x.after, x.width, x.quota, x.stand, x.fails, x.tok, x.val⟩) ∧ Keep O w (w.setCell ⟨g, i * 16 + 4, none⟩ (.int .i64 (wrap64 (x.owner + 1))))) := Lib.hid ⟨hput.1.rig hO, (Keep.refl O w).grown hput.2 (fun k hk => by injection hk with hk; rw [← hk]; exact (hO g hg1 hg2).1)⟩
    have HN := Lib.hid hne
    clear hput hne h
    go_wp2_with fail
    go_ret
    exact ⟨rfl, _, HN.out, HQ.out⟩
  · have hput := h.put hi 5 (by omega) (.int .i64 (wrap64 (x.place + 1))) ⟨x.id, x.name, x.kind, x.flow, x.owner, wrap64 (x.place + 1), x.after, x.width, x.quota, x.stand, x.fails, x.tok, x.val⟩ (fun p q D hD => by
      obtain ⟨a, m, c, k, N, S, d, F, rfl, k1, k2, k3, k4, k5⟩ := hD
      obtain ⟨y1, y2, y3, y4, y5, y6, y7, y8, y9, y10, y11⟩ := k5
      exact ⟨a, m, c, k, N, S, d, F, by rw [← HX.out]; rfl, by rw [← HX.out] at k1; exact k1, k2, by rw [← HX.out] at k3; exact k3, k4, by rw [← HX.out] at *; exact ⟨y1, y2, y3, y4, i64wrapped_ _, y6, y7, y8, y9, y10, y11⟩⟩)
    have hne : ⟨x.id, x.name, x.kind, x.flow, x.owner, wrap64 (x.place + 1), x.after, x.width, x.quota, x.stand, x.fails, x.tok, x.val⟩ ≠ x := by intro e; have e := congrArg Nd.place e; exact wrapne_ y5 e
    have HQ : Hid (RigN 47 O p (w.setCell ⟨g, i * 16 + 5, none⟩ (.int .i64 (wrap64 (x.place + 1)))) (.slice (some ⟨g, 0, none⟩) l.length cap) (l.set i ⟨x.id, x.name, x.kind, x.flow, x.owner, wrap64 (x.place + 1), x.after, x.width, x.quota, x.stand, x.fails, x.tok, x.val⟩) ∧ Keep O w (w.setCell ⟨g, i * 16 + 5, none⟩ (.int .i64 (wrap64 (x.place + 1))))) := Lib.hid ⟨hput.1.rig hO, (Keep.refl O w).grown hput.2 (fun k hk => by injection hk with hk; rw [← hk]; exact (hO g hg1 hg2).1)⟩
    have HN := Lib.hid hne
    clear hput hne h
    go_wp2_with fail
    go_ret
    exact ⟨rfl, _, HN.out, HQ.out⟩
  · have hx15 : ∀ b, b < w.heap.size → True := fun _ _ => trivial
    have HA0 := Lib.hid (hown.ext ((Ext.refl w).alloc (.cells #[.int .i64 1] 3)))
    have HNb := Lib.hid (heap_alloc_new w (.cells #[.int .i64 1] 3))
    have HWs : Hid (w.heap.size < (w.alloc (.cells #[.int .i64 1] 3)).heap.size) := Lib.hid (by simp)
    have HF := Lib.hid hfin
    have HB := Lib.hid hblk
    have HAW := Lib.hid (grown_ext ((Ext.refl w).alloc (.cells #[.int .i64 1] 3)) (Value.slice a m c).ownBlock)
    clear hfin hblk hx15
    go_wp2_with (at_builtin; refine wpList_appOne elemint_ rfl _ _ rfl rfl HA0.out rfl HNb.out rfl (by simp [Value.oneCell']) (by omega) (by omega) (by have := HWs.out; omega) ?_)
    intro v6 w6 ho hgr hat
    have ho6 : OwnN 3 base w6 v6 (x.after ++ [1]) := by
      unfold OwnN; rw [List.length_append, List.map_append]; exact ho
    obtain ⟨a6, m6, c6, rfl⟩ : ∃ a6 m6 c6, v6 = .slice a6 m6 c6 := by
      rcases ho.2 with ⟨q, -⟩ | ⟨b, cap', cur, q, -⟩
      · exact ⟨_, _, _, q⟩
      · exact ⟨_, _, _, q⟩
    have hg6 := grown_trans HAW.out hgr
    have hb6 : ∀ b, (Value.slice a6 m6 c6).ownBlock = some b → O b ∧ b ≠ g ∧ b ≠ p := by
      intro b hb
      rcases hat with q | q
      · have q2 := HB.out b (by rw [← q]; exact hb)
        have q3 := (World.ownsRow.lt hown b (by rw [← q]; exact hb)).1
        have q4 := hO b q3 q2.1
        exact ⟨q4.1, q2.2, q4.2⟩
      · rw [q] at hb
        have hb := Option.some.inj hb
        have := HWs.out
        have q4 := hN b (by omega)
        exact ⟨q4.1, by omega, q4.2⟩
    have hwf : ndWf ⟨x.id, x.name, x.kind, x.flow, x.owner, x.place, x.after ++ [1], x.width, x.quota, x.stand, x.fails, x.tok, x.val⟩ := ⟨y1, y2, y3, y4, y5, y6, y7, y8, y9, y10, fun z hz => by
      rcases List.mem_append.1 hz with q | q
      · exact y11 z q
      · rw [List.mem_singleton] at q; subst q; unfold isI64; omega⟩
    obtain ⟨e1, e2, e3, e4⟩ := HF.out O p w6 (.slice a6 m6 c6) ⟨x.id, x.name, x.kind, x.flow, x.owner, x.place, x.after ++ [1], x.width, x.quota, x.stand, x.fails, x.tok, x.val⟩ hO hg6 ho6 hb6 rfl rfl hwf ⟨_, _, _, rfl⟩
    have hne : ⟨x.id, x.name, x.kind, x.flow, x.owner, x.place, x.after ++ [1], x.width, x.quota, x.stand, x.fails, x.tok, x.val⟩ ≠ x := by intro e; have e := congrArg Nd.after e; have := congrArg List.length e; simp at this
    have HQ := Lib.hid e3
    have HK := Lib.hid (((Keep.refl O w).grown hg6 (fun k hk => (hO k (World.ownsRow.lt hown k hk).1 (HB.out k hk).1).1)).grown e4 (fun k hk => by injection hk with hk; rw [← hk]; exact (hO g hg1 hg2).1))
    have HNe := Lib.hid hne
    clear e3 e4 hne hwf hb6 ho hgr hat ho6 hg6 HF HB HAW HA0 HNb HWs hown h
    go_wp2_with fail
    go_ret
    exact ⟨rfl, _, HNe.out, HQ.out, HK.out⟩
  · have hput := h.put hi 7 (by omega) (.int .i64 (wrap64 (x.width + 1))) ⟨x.id, x.name, x.kind, x.flow, x.owner, x.place, x.after, wrap64 (x.width + 1), x.quota, x.stand, x.fails, x.tok, x.val⟩ (fun p q D hD => by
      obtain ⟨a, m, c, k, N, S, d, F, rfl, k1, k2, k3, k4, k5⟩ := hD
      obtain ⟨y1, y2, y3, y4, y5, y6, y7, y8, y9, y10, y11⟩ := k5
      exact ⟨a, m, c, k, N, S, d, F, by rw [← HX.out]; rfl, by rw [← HX.out] at k1; exact k1, k2, by rw [← HX.out] at k3; exact k3, k4, by rw [← HX.out] at *; exact ⟨y1, y2, y3, y4, y5, i64wrapped_ _, y7, y8, y9, y10, y11⟩⟩)
    have hne : ⟨x.id, x.name, x.kind, x.flow, x.owner, x.place, x.after, wrap64 (x.width + 1), x.quota, x.stand, x.fails, x.tok, x.val⟩ ≠ x := by intro e; have e := congrArg Nd.width e; exact wrapne_ y6 e
    have HQ : Hid (RigN 47 O p (w.setCell ⟨g, i * 16 + 7, none⟩ (.int .i64 (wrap64 (x.width + 1)))) (.slice (some ⟨g, 0, none⟩) l.length cap) (l.set i ⟨x.id, x.name, x.kind, x.flow, x.owner, x.place, x.after, wrap64 (x.width + 1), x.quota, x.stand, x.fails, x.tok, x.val⟩) ∧ Keep O w (w.setCell ⟨g, i * 16 + 7, none⟩ (.int .i64 (wrap64 (x.width + 1))))) := Lib.hid ⟨hput.1.rig hO, (Keep.refl O w).grown hput.2 (fun k hk => by injection hk with hk; rw [← hk]; exact (hO g hg1 hg2).1)⟩
    have HN := Lib.hid hne
    clear hput hne h
    go_wp2_with fail
    go_ret
    exact ⟨rfl, _, HN.out, HQ.out⟩
  · have hput := h.put hi 8 (by omega) (.int .i64 (wrap64 (x.quota + 1))) ⟨x.id, x.name, x.kind, x.flow, x.owner, x.place, x.after, x.width, wrap64 (x.quota + 1), x.stand, x.fails, x.tok, x.val⟩ (fun p q D hD => by
      obtain ⟨a, m, c, k, N, S, d, F, rfl, k1, k2, k3, k4, k5⟩ := hD
      obtain ⟨y1, y2, y3, y4, y5, y6, y7, y8, y9, y10, y11⟩ := k5
      exact ⟨a, m, c, k, N, S, d, F, by rw [← HX.out]; rfl, by rw [← HX.out] at k1; exact k1, k2, by rw [← HX.out] at k3; exact k3, k4, by rw [← HX.out] at *; exact ⟨y1, y2, y3, y4, y5, y6, i64wrapped_ _, y8, y9, y10, y11⟩⟩)
    have hne : ⟨x.id, x.name, x.kind, x.flow, x.owner, x.place, x.after, x.width, wrap64 (x.quota + 1), x.stand, x.fails, x.tok, x.val⟩ ≠ x := by intro e; have e := congrArg Nd.quota e; exact wrapne_ y7 e
    have HQ : Hid (RigN 47 O p (w.setCell ⟨g, i * 16 + 8, none⟩ (.int .i64 (wrap64 (x.quota + 1)))) (.slice (some ⟨g, 0, none⟩) l.length cap) (l.set i ⟨x.id, x.name, x.kind, x.flow, x.owner, x.place, x.after, x.width, wrap64 (x.quota + 1), x.stand, x.fails, x.tok, x.val⟩) ∧ Keep O w (w.setCell ⟨g, i * 16 + 8, none⟩ (.int .i64 (wrap64 (x.quota + 1))))) := Lib.hid ⟨hput.1.rig hO, (Keep.refl O w).grown hput.2 (fun k hk => by injection hk with hk; rw [← hk]; exact (hO g hg1 hg2).1)⟩
    have HN := Lib.hid hne
    clear hput hne h
    go_wp2_with fail
    go_ret
    exact ⟨rfl, _, HN.out, HQ.out⟩
  · obtain ⟨KN, hKN⟩ : ∃ KN, KN = x.stand + 1 := ⟨_, rfl⟩
    have HKN := Lib.hid hKN
    have hku : ((x.stand.toNat : Int) + 1) % 256 = (KN.toNat : Int) := by rw [hKN, UInt8.toNat_add]; have h1 : (1 : UInt8).toNat = 1 := rfl; rw [h1]; omega
    clear hKN
    have hput := h.put hi 9 (by omega) (.int .u8 (KN.toNat : Int)) ⟨x.id, x.name, x.kind, x.flow, x.owner, x.place, x.after, x.width, x.quota, KN, x.fails, x.tok, x.val⟩ (fun p q D hD => by
      obtain ⟨a, m, c, k, N, S, d, F, rfl, k1, k2, k3, k4, k5⟩ := hD
      obtain ⟨y1, y2, y3, y4, y5, y6, y7, y8, y9, y10, y11⟩ := k5
      exact ⟨a, m, c, k, N, S, d, F, by rw [← HX.out]; rfl, by rw [← HX.out] at k1; exact k1, k2, by rw [← HX.out] at k3; exact k3, k4, by rw [← HX.out] at *; exact ⟨y1, y2, y3, y4, y5, y6, y7, y8, y9, y10, y11⟩⟩)
    have hne : ⟨x.id, x.name, x.kind, x.flow, x.owner, x.place, x.after, x.width, x.quota, KN, x.fails, x.tok, x.val⟩ ≠ x := by intro e; have e := congrArg Nd.stand e; have e := congrArg UInt8.toNat e; have e2 := congrArg UInt8.toNat HKN.out; rw [UInt8.toNat_add] at e2; have := x.stand.toNat_lt; have h1 : (1 : UInt8).toNat = 1 := rfl; dsimp only at e; omega
    have HQ : Hid (RigN 47 O p (w.setCell ⟨g, i * 16 + 9, none⟩ (.int .u8 (KN.toNat : Int))) (.slice (some ⟨g, 0, none⟩) l.length cap) (l.set i ⟨x.id, x.name, x.kind, x.flow, x.owner, x.place, x.after, x.width, x.quota, KN, x.fails, x.tok, x.val⟩) ∧ Keep O w (w.setCell ⟨g, i * 16 + 9, none⟩ (.int .u8 (KN.toNat : Int)))) := Lib.hid ⟨hput.1.rig hO, (Keep.refl O w).grown hput.2 (fun k hk => by injection hk with hk; rw [← hk]; exact (hO g hg1 hg2).1)⟩
    have HN := Lib.hid hne
    clear hput hne h
    go_wp2_with fail
    go_ret
    exact ⟨rfl, _, HN.out, HQ.out⟩
  · have hput := h.put hi 10 (by omega) (.int .i64 (wrap64 (x.fails + 1))) ⟨x.id, x.name, x.kind, x.flow, x.owner, x.place, x.after, x.width, x.quota, x.stand, wrap64 (x.fails + 1), x.tok, x.val⟩ (fun p q D hD => by
      obtain ⟨a, m, c, k, N, S, d, F, rfl, k1, k2, k3, k4, k5⟩ := hD
      obtain ⟨y1, y2, y3, y4, y5, y6, y7, y8, y9, y10, y11⟩ := k5
      exact ⟨a, m, c, k, N, S, d, F, by rw [← HX.out]; rfl, by rw [← HX.out] at k1; exact k1, k2, by rw [← HX.out] at k3; exact k3, k4, by rw [← HX.out] at *; exact ⟨y1, y2, y3, y4, y5, y6, y7, i64wrapped_ _, y9, y10, y11⟩⟩)
    have hne : ⟨x.id, x.name, x.kind, x.flow, x.owner, x.place, x.after, x.width, x.quota, x.stand, wrap64 (x.fails + 1), x.tok, x.val⟩ ≠ x := by intro e; have e := congrArg Nd.fails e; exact wrapne_ y8 e
    have HQ : Hid (RigN 47 O p (w.setCell ⟨g, i * 16 + 10, none⟩ (.int .i64 (wrap64 (x.fails + 1)))) (.slice (some ⟨g, 0, none⟩) l.length cap) (l.set i ⟨x.id, x.name, x.kind, x.flow, x.owner, x.place, x.after, x.width, x.quota, x.stand, wrap64 (x.fails + 1), x.tok, x.val⟩) ∧ Keep O w (w.setCell ⟨g, i * 16 + 10, none⟩ (.int .i64 (wrap64 (x.fails + 1))))) := Lib.hid ⟨hput.1.rig hO, (Keep.refl O w).grown hput.2 (fun k hk => by injection hk with hk; rw [← hk]; exact (hO g hg1 hg2).1)⟩
    have HN := Lib.hid hne
    clear hput hne h
    go_wp2_with fail
    go_ret
    exact ⟨rfl, _, HN.out, HQ.out⟩
  · obtain ⟨kk, nn, ss, ll, hv⟩ : ∃ kk nn ss ll, x.val = .node kk nn ss ll := by cases h : x.val with | node k n s l => exact ⟨k, n, s, l, rfl⟩
    have hN2 := hl
    rw [hv] at hN2
    obtain ⟨dd, ed, hn64, -, -⟩ := hN2.parts
    injection ed with ed
    injection ed with ed
    simp only [List.cons.injEq, Value.int.injEq, Value.string.injEq, true_and, and_true] at ed
    obtain ⟨rfl, rfl, rfl, rfl⟩ := ed
    have HV := Lib.hid hv
    have hput := h.put hi 13 (by omega) (.int .i64 (wrap64 (nn + 1))) ⟨x.id, x.name, x.kind, x.flow, x.owner, x.place, x.after, x.width, x.quota, x.stand, x.fails, x.tok, .node kk (wrap64 (nn + 1)) ss ll⟩ (fun p q D hD => by
      obtain ⟨a, m, c, k, N, S, d, F, rfl, k1, k2, k3, k4, k5⟩ := hD
      obtain ⟨y1, y2, y3, y4, y5, y6, y7, y8, y9, y10, y11⟩ := k5
      rw [← HX.out] at k1 k3 y1 y2 y3 y4 y5 y6 y7 y8 y9 y10 y11
      rw [HV.out] at k3
      obtain ⟨d', ed, q1, q2, q3⟩ := k3.parts
      injection ed with ed
      injection ed with ed
      simp only [List.cons.injEq, and_true] at ed
      obtain ⟨rfl, rfl, rfl, rfl⟩ := ed
      have k3' := Owns.mk (k := kk) (s := ss) (i64wrapped_ (nn + 1)) q2 q3
      exact ⟨a, m, c, _, _, _, _, F, by rw [← HX.out]; rfl, k1, k2, k3', k4, y1, y2, y3, y4, y5, y6, y7, y8, y9, k3'.lies.nums, y11⟩)
    have hne : ⟨x.id, x.name, x.kind, x.flow, x.owner, x.place, x.after, x.width, x.quota, x.stand, x.fails, x.tok, .node kk (wrap64 (nn + 1)) ss ll⟩ ≠ x := by
      intro e
      have e := congrArg Nd.val e
      dsimp only at e
      rw [HV.out] at e
      injection e with _ e
      exact wrapne_ hn64 e
    have HQ : Hid (RigN 47 O p (w.setCell ⟨g, i * 16 + 13, none⟩ (.int .i64 (wrap64 (nn + 1)))) (.slice (some ⟨g, 0, none⟩) l.length cap) (l.set i ⟨x.id, x.name, x.kind, x.flow, x.owner, x.place, x.after, x.width, x.quota, x.stand, x.fails, x.tok, .node kk (wrap64 (nn + 1)) ss ll⟩) ∧ Keep O w (w.setCell ⟨g, i * 16 + 13, none⟩ (.int .i64 (wrap64 (nn + 1))))) := Lib.hid ⟨hput.1.rig hO, (Keep.refl O w).grown hput.2 (fun k hk => by injection hk with hk; rw [← hk]; exact (hO g hg1 hg2).1)⟩
    have HN := Lib.hid hne
    clear hput hne h hv hl
    go_wp2_with fail
    go_ret
    exact ⟨rfl, _, HN.out, HQ.out⟩
end Go.Proofs.YtdienbcjfljjnaaDoor

/- Walks: a state is changed in one thing. -/
open Go.RowKit Go.Shelf
namespace Go.Proofs.YtdienbcjfljjnaaDoor
open Go Go.Proofs Fm

def ndY : Nd := ⟨[121], [], 0, 0, 0, 0, [], 0, 0, 0, 0, 0, zT⟩
theorem ndY_v (w : World) : NdV w ndY (.agg ([.string { data := #[121] }, .string { data := #[] }, .int .u8 0, .int .i64 0, .int .i64 0, .int .i64 0, .slice none 0 0, .int .i64 0, .int .i64 0, .int .u8 0, .int .i64 0, .int .i64 0, .int .u8 0, .int .i64 0, .string { data := #[] }, .slice none 0 0] : List Value).toArray) := by
  refine ⟨none, 0, 0, .int .u8 0, .int .i64 0, .string { data := #[] }, .slice none 0 0, rfl, Elem.Row.void _ _ _, Lies_zT w, ?_, ?_, ?_, ?_, ?_, ?_, ?_, ?_, ?_⟩
  all_goals first | (show isI64 0; unfold isI64; omega) | simp [ndY]
theorem infonode_ : (Tryd.prog.info? 47).map (fun i => (i.zero, i.size, i.bytes)) = some (some (.agg #[.string { data := #[] }, .string { data := #[] }, .int .u8 0, .int .i64 0, .int .i64 0, .int .i64 0, .slice none 0 0, .int .i64 0, .int .i64 0, .int .u8 0, .int .i64 0, .int .i64 0, .int .u8 0, .int .i64 0, .string { data := #[] }, .slice none 0 0]), 16, 184) := by kernel_rfl
theorem elemnode_ : ElemOf Tryd.prog 24 47 (.agg #[.string { data := #[] }, .string { data := #[] }, .int .u8 0, .int .i64 0, .int .i64 0, .int .i64 0, .slice none 0 0, .int .i64 0, .int .i64 0, .int .u8 0, .int .i64 0, .int .i64 0, .int .u8 0, .int .i64 0, .string { data := #[] }, .slice none 0 0]) 16 184 := ⟨Tryd.underlying24, infonode_, rfl, by decide⟩
theorem nodes_ne {l : List Nd} {G : Nat} (hG : G < l.length) {n' : Nd} (h : n' ≠ l[G]) : l.set G n' ≠ l := by
  intro e
  apply h
  have e2 : (l.set G n')[G]'(by simpa using hG) = n' := by simp
  rw [← e2]; congr 1

set_option maxRecDepth 100000 in
set_option maxHeartbeats 16000000 in
theorem turned_any (s : Sn) (w : World) (base top p : Nat) (a : Option Addr) (c : Nat) (O : Nat → Prop) (hb : BoxL w p [.int .i64 s.cq, .int .i64 s.cd, .int .i64 s.cw, .int .i64 s.cr, .int .i64 s.cf, .int .i64 s.flows, .slice a s.nodes.length c, .int .i64 s.tok])
    (h : CopyT 47 3 45 base top w (.slice a s.nodes.length c) s.nodes) (hO : ∀ b, base ≤ b → b < top → O b ∧ b ≠ p) (hN : ∀ b, w.heap.size ≤ b → O b ∧ b ≠ p) (hpO : ¬ O p) (hf : fewSn s = true)
    (hw : isI64 s.cq ∧ isI64 s.cd ∧ isI64 s.cw ∧ isI64 s.cr ∧ isI64 s.cf ∧ isI64 s.flows ∧ isI64 s.tok) (A : Nat) (hA : A < 256) (wh : Nat) (hwh : wh < 256) :
    Calls Tryd.prog 19 #[.pointer (some ⟨p, 0, none⟩), .int .i64 (A : Int), .int .u8 (wh : Int)] w fun e w' => (e = .returned (.bool false) ∧ Ext w w') ∨
      (e = .returned (.bool true) ∧ ∃ (s' : Sn) (a' : Option Addr) (c' : Nat), s' ≠ s ∧ (isI64 s'.cq ∧ isI64 s'.cd ∧ isI64 s'.cw ∧ isI64 s'.cr ∧ isI64 s'.cf ∧ isI64 s'.flows ∧ isI64 s'.tok) ∧
        BoxL w' p [.int .i64 s'.cq, .int .i64 s'.cd, .int .i64 s'.cw, .int .i64 s'.cr, .int .i64 s'.cf, .int .i64 s'.flows, .slice a' s'.nodes.length c', .int .i64 s'.tok] ∧ RigN 47 O p w' (.slice a' s'.nodes.length c') s'.nodes ∧ Keep (fun b => O b ∨ b = p) w w') := by
  obtain ⟨cq, cd, cw, cr, cf, fl, l, tk⟩ := s
  simp only at *
  obtain ⟨w0, w1, w2, w3, w4, w5, w6_⟩ := hw
  have ⟨p0, p1, p2, p3, p4, p5, p6, p7⟩ := hb.n8
  have f0 := hb.free 0
  have f1 := hb.free 1
  have f2 := hb.free 2
  have f3 := hb.free 3
  have f4 := hb.free 4
  have f5 := hb.free 5
  have f6 := hb.free 6
  have f7 := hb.free 7
  have hpl := hb.lt
  unfold fewSn at hf
  simp only [Bool.and_eq_true, decide_eq_true_eq] at hf
  obtain ⟨hl60, hlight⟩ := hf
  go_enter Tryd.func19, Tryd.ntmps19
  obtain ⟨K, hK⟩ : ∃ K : Nat, K = wh % 20 := ⟨_, rfl⟩
  have hkk : (wh : Int) % 20 = (K : Int) := by rw [hK]; simp
  have hK20 : K < 20 := by omega
  clear hK
  by_cases hK0 : K = 0
  case pos =>
    subst hK0
    have hkw : IntKind.u8.wrap ((wh : Int).tmod 20) = 0 := by rw [Int.tmod_eq_emod_of_nonneg (by omega), hkk]; rfl
    have hk20 : (wh : Int) % 20 = 0 := hkk
    clear hkk hK20
    have hg := setOne_grown w p 0 (.int .i64 (wrap64 (cq + 1)))
    have HB := Lib.hid (hb.set 0 (by simp) (.int .i64 (wrap64 (cq + 1))))
    have HR : Hid (RigN 47 O p (w.setCell ⟨p, 0, none⟩ (.int .i64 (wrap64 (cq + 1)))) (.slice a l.length c) l) := Lib.hid ((h.far (fun b hb1 hb2 => hg.block b (by have := h.size; omega) (fun e => by injection e with e; exact (hO b hb1 hb2).2 e)) hg.size).rig hO)
    have HK : Hid (Keep (fun b => O b ∨ b = p) w (w.setCell ⟨p, 0, none⟩ (.int .i64 (wrap64 (cq + 1))))) := Lib.hid ((Keep.refl _ w).grown hg (fun k hk => by injection hk with hk; exact .inr hk.symm))
    have HN : Hid ((⟨wrap64 (cq + 1), cd, cw, cr, cf, fl, l, tk⟩ : Sn) ≠ ⟨cq, cd, cw, cr, cf, fl, l, tk⟩) := Lib.hid (fun e => by have e := congrArg Sn.cq e; exact wrapne_ w0 e)
    have hnk : ((0 : Nat) : Int) = 0 := rfl
    clear hg h hb
    go_wp2_with fail
    go_ret
    exact .inr ⟨rfl, _, _, _, HN.out, ⟨i64wrapped_ _, w1, w2, w3, w4, w5, w6_⟩, HB.out, HR.out, HK.out⟩
  by_cases hK1 : K = 1
  case pos =>
    subst hK1
    have hkw : IntKind.u8.wrap ((wh : Int).tmod 20) = 1 := by rw [Int.tmod_eq_emod_of_nonneg (by omega), hkk]; rfl
    have hk20 : (wh : Int) % 20 = 1 := hkk
    clear hkk hK20
    have hg := setOne_grown w p 1 (.int .i64 (wrap64 (cd + 1)))
    have HB := Lib.hid (hb.set 1 (by simp) (.int .i64 (wrap64 (cd + 1))))
    have HR : Hid (RigN 47 O p (w.setCell ⟨p, 1, none⟩ (.int .i64 (wrap64 (cd + 1)))) (.slice a l.length c) l) := Lib.hid ((h.far (fun b hb1 hb2 => hg.block b (by have := h.size; omega) (fun e => by injection e with e; exact (hO b hb1 hb2).2 e)) hg.size).rig hO)
    have HK : Hid (Keep (fun b => O b ∨ b = p) w (w.setCell ⟨p, 1, none⟩ (.int .i64 (wrap64 (cd + 1))))) := Lib.hid ((Keep.refl _ w).grown hg (fun k hk => by injection hk with hk; exact .inr hk.symm))
    have HN : Hid ((⟨cq, wrap64 (cd + 1), cw, cr, cf, fl, l, tk⟩ : Sn) ≠ ⟨cq, cd, cw, cr, cf, fl, l, tk⟩) := Lib.hid (fun e => by have e := congrArg Sn.cd e; exact wrapne_ w1 e)
    have hnk : ((1 : Nat) : Int) = 1 := rfl
    clear hg h hb
    go_wp2_with fail
    go_ret
    exact .inr ⟨rfl, _, _, _, HN.out, ⟨w0, i64wrapped_ _, w2, w3, w4, w5, w6_⟩, HB.out, HR.out, HK.out⟩
  by_cases hK2 : K = 2
  case pos =>
    subst hK2
    have hkw : IntKind.u8.wrap ((wh : Int).tmod 20) = 2 := by rw [Int.tmod_eq_emod_of_nonneg (by omega), hkk]; rfl
    have hk20 : (wh : Int) % 20 = 2 := hkk
    clear hkk hK20
    have hg := setOne_grown w p 2 (.int .i64 (wrap64 (cw + 1)))
    have HB := Lib.hid (hb.set 2 (by simp) (.int .i64 (wrap64 (cw + 1))))
    have HR : Hid (RigN 47 O p (w.setCell ⟨p, 2, none⟩ (.int .i64 (wrap64 (cw + 1)))) (.slice a l.length c) l) := Lib.hid ((h.far (fun b hb1 hb2 => hg.block b (by have := h.size; omega) (fun e => by injection e with e; exact (hO b hb1 hb2).2 e)) hg.size).rig hO)
    have HK : Hid (Keep (fun b => O b ∨ b = p) w (w.setCell ⟨p, 2, none⟩ (.int .i64 (wrap64 (cw + 1))))) := Lib.hid ((Keep.refl _ w).grown hg (fun k hk => by injection hk with hk; exact .inr hk.symm))
    have HN : Hid ((⟨cq, cd, wrap64 (cw + 1), cr, cf, fl, l, tk⟩ : Sn) ≠ ⟨cq, cd, cw, cr, cf, fl, l, tk⟩) := Lib.hid (fun e => by have e := congrArg Sn.cw e; exact wrapne_ w2 e)
    have hnk : ((2 : Nat) : Int) = 2 := rfl
    clear hg h hb
    go_wp2_with fail
    go_ret
    exact .inr ⟨rfl, _, _, _, HN.out, ⟨w0, w1, i64wrapped_ _, w3, w4, w5, w6_⟩, HB.out, HR.out, HK.out⟩
  by_cases hK3 : K = 3
  case pos =>
    subst hK3
    have hkw : IntKind.u8.wrap ((wh : Int).tmod 20) = 3 := by rw [Int.tmod_eq_emod_of_nonneg (by omega), hkk]; rfl
    have hk20 : (wh : Int) % 20 = 3 := hkk
    clear hkk hK20
    have hg := setOne_grown w p 3 (.int .i64 (wrap64 (cr + 1)))
    have HB := Lib.hid (hb.set 3 (by simp) (.int .i64 (wrap64 (cr + 1))))
    have HR : Hid (RigN 47 O p (w.setCell ⟨p, 3, none⟩ (.int .i64 (wrap64 (cr + 1)))) (.slice a l.length c) l) := Lib.hid ((h.far (fun b hb1 hb2 => hg.block b (by have := h.size; omega) (fun e => by injection e with e; exact (hO b hb1 hb2).2 e)) hg.size).rig hO)
    have HK : Hid (Keep (fun b => O b ∨ b = p) w (w.setCell ⟨p, 3, none⟩ (.int .i64 (wrap64 (cr + 1))))) := Lib.hid ((Keep.refl _ w).grown hg (fun k hk => by injection hk with hk; exact .inr hk.symm))
    have HN : Hid ((⟨cq, cd, cw, wrap64 (cr + 1), cf, fl, l, tk⟩ : Sn) ≠ ⟨cq, cd, cw, cr, cf, fl, l, tk⟩) := Lib.hid (fun e => by have e := congrArg Sn.cr e; exact wrapne_ w3 e)
    have hnk : ((3 : Nat) : Int) = 3 := rfl
    clear hg h hb
    go_wp2_with fail
    go_ret
    exact .inr ⟨rfl, _, _, _, HN.out, ⟨w0, w1, w2, i64wrapped_ _, w4, w5, w6_⟩, HB.out, HR.out, HK.out⟩
  by_cases hK4 : K = 4
  case pos =>
    subst hK4
    have hkw : IntKind.u8.wrap ((wh : Int).tmod 20) = 4 := by rw [Int.tmod_eq_emod_of_nonneg (by omega), hkk]; rfl
    have hk20 : (wh : Int) % 20 = 4 := hkk
    clear hkk hK20
    have hg := setOne_grown w p 4 (.int .i64 (wrap64 (cf + 1)))
    have HB := Lib.hid (hb.set 4 (by simp) (.int .i64 (wrap64 (cf + 1))))
    have HR : Hid (RigN 47 O p (w.setCell ⟨p, 4, none⟩ (.int .i64 (wrap64 (cf + 1)))) (.slice a l.length c) l) := Lib.hid ((h.far (fun b hb1 hb2 => hg.block b (by have := h.size; omega) (fun e => by injection e with e; exact (hO b hb1 hb2).2 e)) hg.size).rig hO)
    have HK : Hid (Keep (fun b => O b ∨ b = p) w (w.setCell ⟨p, 4, none⟩ (.int .i64 (wrap64 (cf + 1))))) := Lib.hid ((Keep.refl _ w).grown hg (fun k hk => by injection hk with hk; exact .inr hk.symm))
    have HN : Hid ((⟨cq, cd, cw, cr, wrap64 (cf + 1), fl, l, tk⟩ : Sn) ≠ ⟨cq, cd, cw, cr, cf, fl, l, tk⟩) := Lib.hid (fun e => by have e := congrArg Sn.cf e; exact wrapne_ w4 e)
    have hnk : ((4 : Nat) : Int) = 4 := rfl
    clear hg h hb
    go_wp2_with fail
    go_ret
    exact .inr ⟨rfl, _, _, _, HN.out, ⟨w0, w1, w2, w3, i64wrapped_ _, w5, w6_⟩, HB.out, HR.out, HK.out⟩
  by_cases hK5 : K = 5
  case pos =>
    subst hK5
    have hkw : IntKind.u8.wrap ((wh : Int).tmod 20) = 5 := by rw [Int.tmod_eq_emod_of_nonneg (by omega), hkk]; rfl
    have hk20 : (wh : Int) % 20 = 5 := hkk
    clear hkk hK20
    have hg := setOne_grown w p 5 (.int .i64 (wrap64 (fl + 1)))
    have HB := Lib.hid (hb.set 5 (by simp) (.int .i64 (wrap64 (fl + 1))))
    have HR : Hid (RigN 47 O p (w.setCell ⟨p, 5, none⟩ (.int .i64 (wrap64 (fl + 1)))) (.slice a l.length c) l) := Lib.hid ((h.far (fun b hb1 hb2 => hg.block b (by have := h.size; omega) (fun e => by injection e with e; exact (hO b hb1 hb2).2 e)) hg.size).rig hO)
    have HK : Hid (Keep (fun b => O b ∨ b = p) w (w.setCell ⟨p, 5, none⟩ (.int .i64 (wrap64 (fl + 1))))) := Lib.hid ((Keep.refl _ w).grown hg (fun k hk => by injection hk with hk; exact .inr hk.symm))
    have HN : Hid ((⟨cq, cd, cw, cr, cf, wrap64 (fl + 1), l, tk⟩ : Sn) ≠ ⟨cq, cd, cw, cr, cf, fl, l, tk⟩) := Lib.hid (fun e => by have e := congrArg Sn.flows e; exact wrapne_ w5 e)
    have hnk : ((5 : Nat) : Int) = 5 := rfl
    clear hg h hb
    go_wp2_with fail
    go_ret
    exact .inr ⟨rfl, _, _, _, HN.out, ⟨w0, w1, w2, w3, w4, i64wrapped_ _, w6_⟩, HB.out, HR.out, HK.out⟩
  by_cases hK6 : K = 6
  case pos =>
    subst hK6
    have hkw : IntKind.u8.wrap ((wh : Int).tmod 20) = 6 := by rw [Int.tmod_eq_emod_of_nonneg (by omega), hkk]; rfl
    have hk20 : (wh : Int) % 20 = 6 := hkk
    clear hkk hK20
    have hg := setOne_grown w p 7 (.int .i64 (wrap64 (tk + 1)))
    have HB := Lib.hid (hb.set 7 (by simp) (.int .i64 (wrap64 (tk + 1))))
    have HR : Hid (RigN 47 O p (w.setCell ⟨p, 7, none⟩ (.int .i64 (wrap64 (tk + 1)))) (.slice a l.length c) l) := Lib.hid ((h.far (fun b hb1 hb2 => hg.block b (by have := h.size; omega) (fun e => by injection e with e; exact (hO b hb1 hb2).2 e)) hg.size).rig hO)
    have HK : Hid (Keep (fun b => O b ∨ b = p) w (w.setCell ⟨p, 7, none⟩ (.int .i64 (wrap64 (tk + 1))))) := Lib.hid ((Keep.refl _ w).grown hg (fun k hk => by injection hk with hk; exact .inr hk.symm))
    have HN : Hid ((⟨cq, cd, cw, cr, cf, fl, l, wrap64 (tk + 1)⟩ : Sn) ≠ ⟨cq, cd, cw, cr, cf, fl, l, tk⟩) := Lib.hid (fun e => by have e := congrArg Sn.tok e; exact wrapne_ w6_ e)
    have hnk : ((6 : Nat) : Int) = 6 := rfl
    clear hg h hb
    go_wp2_with fail
    go_ret
    exact .inr ⟨rfl, _, _, _, HN.out, ⟨w0, w1, w2, w3, w4, w5, i64wrapped_ _⟩, HB.out, HR.out, HK.out⟩
  by_cases hK7 : K = 7
  case pos =>
    subst hK7
    have hkw : IntKind.u8.wrap ((wh : Int).tmod 20) = 7 := by rw [Int.tmod_eq_emod_of_nonneg (by omega), hkk]; rfl
    have hk20 : (wh : Int) % 20 = 7 := hkk
    clear hkk hK20
    obtain ⟨xs, hrow, hgrow⟩ := h.grow
    have HA0 := Lib.hid (((Ext.refl w).alloc (.cells #[.string { data := #[121] }, .string { data := #[] }, .int .u8 0, .int .i64 0, .int .i64 0, .int .i64 0, .slice none 0 0, .int .i64 0, .int .i64 0, .int .u8 0, .int .i64 0, .int .i64 0, .int .u8 0, .int .i64 0, .string { data := #[] }, .slice none 0 0] 47)).own hrow)
    have HNb := Lib.hid (heap_alloc_new w (.cells #[.string { data := #[121] }, .string { data := #[] }, .int .u8 0, .int .i64 0, .int .i64 0, .int .i64 0, .slice none 0 0, .int .i64 0, .int .i64 0, .int .u8 0, .int .i64 0, .int .i64 0, .int .u8 0, .int .i64 0, .string { data := #[] }, .slice none 0 0] 47))
    have HWs : Hid (w.heap.size < (w.alloc (.cells #[.string { data := #[121] }, .string { data := #[] }, .int .u8 0, .int .i64 0, .int .i64 0, .int .i64 0, .slice none 0 0, .int .i64 0, .int .i64 0, .int .u8 0, .int .i64 0, .int .i64 0, .int .u8 0, .int .i64 0, .string { data := #[] }, .slice none 0 0] 47)).heap.size) := Lib.hid (by simp)
    have HAW := Lib.hid (grown_ext ((Ext.refl w).alloc (.cells #[.string { data := #[121] }, .string { data := #[] }, .int .u8 0, .int .i64 0, .int .i64 0, .int .i64 0, .slice none 0 0, .int .i64 0, .int .i64 0, .int .u8 0, .int .i64 0, .int .i64 0, .int .u8 0, .int .i64 0, .string { data := #[] }, .slice none 0 0] 47)) (Value.slice a l.length c).ownBlock)
    have HG := Lib.hid hgrow
    have HRow := Lib.hid hrow
    have HB := Lib.hid hb
    have hpl := hb.lt
    have hsz := h.size
    have hlow := h.low
    clear hgrow hrow hb
    go_wp2_with (at_builtin; refine wpList_appOne elemnode_ rfl _ _ rfl rfl HA0.out rfl HNb.out rfl (by simp [Value.oneCell']) (by omega) (by omega) (by have := HWs.out; omega) ?_)
    intro v6 w6 ho hgr hat
    obtain ⟨a6, m6, c6, hv6, hm6⟩ : ∃ a6 m6 c6, v6 = .slice a6 m6 c6 ∧ m6 = l.length + 1 := by
      rcases ho.2 with ⟨q, q2⟩ | ⟨b, cap', cur, q, -⟩
      · exact ⟨_, _, _, q, by omega⟩
      · exact ⟨_, _, _, q, rfl⟩
    subst hv6 hm6
    have hg6 := grown_trans HAW.out hgr
    have hpr : (Value.slice a l.length c).ownBlock ≠ some p := fun e => by
      have q := h.block p e
      exact (hO p q.1 q.2).2 rfl
    have hb6 := HB.out.kept hg6 hpr
    have hp6 : ∀ b, (Value.slice a6 (l.length + 1) c6).ownBlock = some b → (Value.slice a l.length c).ownBlock = some b ∨ (O b ∧ b ≠ p ∧ top ≤ b) := fun b hb => by
      rcases hat with q | q
      · exact .inl (by rw [← q]; exact hb)
      · right
        rw [q] at hb
        have hb := Option.some.inj hb
        have := HWs.out
        have q4 := hN b (by omega)
        exact ⟨q4.1, q4.2, by omega⟩
    have hpp : (Value.slice a6 (l.length + 1) c6).ownBlock ≠ some p := fun e => by
      rcases hp6 p e with q | q
      · exact hpr q
      · exact q.2.1 rfl
    have hgs := setOne_grown w6 p 6 (.slice a6 (l.length + 1) c6)
    have hsx := hg6.size
    have hbs := hb6.set 6 (by simp) (.slice a6 (l.length + 1) c6)
    have hrig : RigN 47 O p (w6.setCell ⟨p, 6, none⟩ (.slice a6 (l.length + 1) c6)) (.slice a6 (l.length + 1) c6) (l ++ [ndY]) :=
      HG.out O p _ _ ndY [.string { data := #[121] }, .string { data := #[] }, .int .u8 0, .int .i64 0, .int .i64 0, .int .i64 0, .slice none 0 0, .int .i64 0, .int .i64 0, .int .u8 0, .int .i64 0, .int .i64 0, .int .u8 0, .int .i64 0, .string { data := #[] }, .slice none 0 0] hO rfl (ownsRow_block ho (fun b hb => hgs.block b (World.ownsRow.lt ho b hb).2 (fun e => by injection e with e; rw [e] at hb; exact hpp hb)))
        (fun b hb1 hb2 hb3 => (hgs.block b (by omega) (fun e => by injection e with e; exact (hO b hb1 hb2).2 e)).trans (hg6.block b (by omega) (fun e => hb3 e.symm))) hp6 (ndY_v _) rfl rfl
    have hkeep : Keep (fun b => O b ∨ b = p) w (w6.setCell ⟨p, 6, none⟩ (.slice a6 (l.length + 1) c6)) := ((Keep.refl _ w).grown hg6 (fun k hk => .inl (by have q := h.block k hk; exact (hO k q.1 q.2).1))).grown hgs (fun k hk => by injection hk with hk; exact .inr hk.symm)
    have HBS := Lib.hid hbs
    have HRig := Lib.hid hrig
    have HKeep := Lib.hid hkeep
    have HNe : Hid ((⟨cq, cd, cw, cr, cf, fl, l ++ [ndY], tk⟩ : Sn) ≠ ⟨cq, cd, cw, cr, cf, fl, l, tk⟩) := Lib.hid (fun e => by have e := congrArg Sn.nodes e; have := congrArg List.length e; simp at this)
    have ⟨q0, q1, q2, q3, q4, q5, q6, q7⟩ := hb6.n8
    have g6 := hb6.free 6
    clear hbs hrig hkeep hgs hb6 hg6 ho hgr hat hp6 hpp hpr h HA0 HNb HAW HG HRow HB p0 p1 p2 p3 p4 p5 p6 p7 f0 f1 f2 f3 f4 f5 f6 f7
    go_wp2_with fail
    go_ret
    exact .inr ⟨rfl, _, a6, c6, HNe.out, ⟨w0, w1, w2, w3, w4, w5, w6_⟩, by simp only [List.length_append, List.length_singleton]; exact HBS.out, by simp only [List.length_append, List.length_singleton]; exact HRig.out, HKeep.out⟩
  have hkw : IntKind.u8.wrap ((wh : Int).tmod 20) = (K : Int) := by
    rw [Int.tmod_eq_emod_of_nonneg (by omega), hkk]
    rw [IntKind.wrap_u8]; omega
  have e0 : ((K : Int) == 0) = false := beq_eq_false_iff_ne.2 (by omega)
  have e1 : ((K : Int) == 1) = false := beq_eq_false_iff_ne.2 (by omega)
  have e2 : ((K : Int) == 2) = false := beq_eq_false_iff_ne.2 (by omega)
  have e3 : ((K : Int) == 3) = false := beq_eq_false_iff_ne.2 (by omega)
  have e4 : ((K : Int) == 4) = false := beq_eq_false_iff_ne.2 (by omega)
  have e5 : ((K : Int) == 5) = false := beq_eq_false_iff_ne.2 (by omega)
  have e6 : ((K : Int) == 6) = false := beq_eq_false_iff_ne.2 (by omega)
  have e7 : ((K : Int) == 7) = false := beq_eq_false_iff_ne.2 (by omega)
  by_cases hl0 : l.length = 0
  · rw [hl0] at p6
    have HS : Hid (∀ w', Ext w w' → w'.cell? ⟨p, 6, none⟩ = some (.slice a 0 c)) := Lib.hid (fun w' hE => (hE.cell (p := ⟨p, 6, none⟩) hpl).trans p6)
    go_upto_region 3 with (fail)
    refine wp_region_held_drew (S := (fun w' => w'.cell? ⟨p, 6, none⟩ = some (.slice a 0 c))) (by kernel_rfl) ?_ (fun hHeld => ?_)
    · (try dsimp only)
      (first | exact p6 | exact HS.out _ (Ext.refl _).drew)
    refine take_w 0 (some 13) (v := ?_) (by kernel_rfl) (by kernel_rfl) (by kernel_rfl) (by kernel_rfl) (by kernel_rfl) (fun _ _ _ h => h) (by rfl) ?_ (by assumption) ?_
    rotate_left
    · (intro w hSw; (try dsimp only at hSw); go_simp; try with_reducible rfl)
    try simp only [Act.put, List.setIfInBounds_toArray, List.set_cons_zero, List.set_cons_succ]
    refine take_w 1 (some 14) (v := ?_) (by kernel_rfl) (by kernel_rfl) (by kernel_rfl) (by kernel_rfl) (by kernel_rfl) (fun _ _ _ h => h) (by rfl) ?_ (by assumption) ?_
    rotate_left
    · (intro w hSw; (try dsimp only at hSw); go_simp; try with_reducible rfl)
    try simp only [Act.put, List.setIfInBounds_toArray, List.set_cons_zero, List.set_cons_succ]
    refine take_w 2 (some 15) (v := ?_) (by kernel_rfl) (by kernel_rfl) (by kernel_rfl) (by kernel_rfl) (by kernel_rfl) (fun _ _ _ h => h) (by rfl) ?_ (by assumption) ?_
    rotate_left
    · (intro w hSw; (try dsimp only at hSw); go_simp; try with_reducible rfl)
    try simp only [Act.put, List.setIfInBounds_toArray, List.set_cons_zero, List.set_cons_succ]
    refine take_w 3 (some 16) (v := ?_) (by kernel_rfl) (by kernel_rfl) (by kernel_rfl) (by kernel_rfl) (by kernel_rfl) (fun _ _ _ h => h) (by rfl) ?_ (by assumption) ?_
    rotate_left
    · (intro w hSw; (try dsimp only at hSw); go_simp; try with_reducible rfl)
    try simp only [Act.put, List.setIfInBounds_toArray, List.set_cons_zero, List.set_cons_succ]
    refine take_w 4 (some 17) (v := ?_) (by kernel_rfl) (by kernel_rfl) (by kernel_rfl) (by kernel_rfl) (by kernel_rfl) (fun _ _ _ h => h) (by rfl) ?_ (by assumption) ?_
    rotate_left
    · (intro w hSw; (try dsimp only at hSw); go_simp; try with_reducible rfl)
    try simp only [Act.put, List.setIfInBounds_toArray, List.set_cons_zero, List.set_cons_succ]
    refine take_w 5 (some 18) (v := ?_) (by kernel_rfl) (by kernel_rfl) (by kernel_rfl) (by kernel_rfl) (by kernel_rfl) (fun _ _ _ h => h) (by rfl) ?_ (by assumption) ?_
    rotate_left
    · (intro w hSw; (try dsimp only at hSw); go_simp; try with_reducible rfl)
    try simp only [Act.put, List.setIfInBounds_toArray, List.set_cons_zero, List.set_cons_succ]
    refine take_w 6 (some 19) (v := ?_) (by kernel_rfl) (by kernel_rfl) (by kernel_rfl) (by kernel_rfl) (by kernel_rfl) (fun _ _ _ h => h) (by rfl) ?_ (by assumption) ?_
    rotate_left
    · (intro w hSw; (try dsimp only at hSw); go_simp; try with_reducible rfl)
    try simp only [Act.put, List.setIfInBounds_toArray, List.set_cons_zero, List.set_cons_succ]
    refine take_un 14 [(7, some 20), (8, some 21), (9, some 22), (10, some 23), (11, some 24), (12, some 25), (13, some 26), (14, some 27), (15, some 28), (16, some 29), (17, some 30), (18, some 31), (19, some 32), (20, some 33)] rfl (by kernel_rfl) (fun _ _ _ _ h => h) (by assumption) ?_
    simp only [putU, setU, Act.put, List.setIfInBounds_toArray, List.set_cons_zero, List.set_cons_succ]
    refine ready_u 21 (some 34) (by kernel_rfl) (by kernel_rfl) (by kernel_rfl) (by rfl) (by assumption) ?_
    try simp only [Act.put, List.setIfInBounds_toArray, List.set_cons_zero, List.set_cons_succ]
    refine take_w 22 (some 35) (v := ?_) (by kernel_rfl) (by kernel_rfl) (by kernel_rfl) (by kernel_rfl) (by kernel_rfl) (fun _ _ _ h => h) (by rfl) ?_ (by assumption) ?_
    rotate_left
    · (intro w hSw; (try dsimp only at hSw); go_simp; try with_reducible rfl)
    try simp only [Act.put, List.setIfInBounds_toArray, List.set_cons_zero, List.set_cons_succ]
    refine take_w 23 (some 6) (v := ?_) (by kernel_rfl) (by kernel_rfl) (by kernel_rfl) (by kernel_rfl) (by kernel_rfl) (fun _ _ _ h => h) (by rfl) ?_ (by assumption) ?_
    rotate_left
    · (intro w hSw; (try dsimp only at hSw); go_simp; try with_reducible rfl)
    try simp only [Act.put, List.setIfInBounds_toArray, List.set_cons_zero, List.set_cons_succ]
    refine wpAnyH_done (by kernel_rfl) ?_ _
    go_wp2
    go_ret
    exact .inl ⟨rfl, (Ext.refl w).drew⟩
  · obtain ⟨g, rfl⟩ : ∃ g, a = some ⟨g, 0, none⟩ := by
      rcases h.slice with ⟨q, -⟩ | ⟨g, c', q, -⟩
      · rw [q] at hl0; exact absurd rfl hl0
      · injection q with q; exact ⟨g, q⟩
    have HS : Hid (∀ w', Ext w w' → w'.cell? ⟨p, 6, none⟩ = some (.slice (some ⟨g, 0, none⟩) l.length c)) := Lib.hid (fun w' hE => (hE.cell (p := ⟨p, 6, none⟩) hpl).trans p6)
    obtain ⟨G, hG⟩ : ∃ G : Nat, G = A % l.length := ⟨_, rfl⟩
    have hGl : G < l.length := by rw [hG]; exact Nat.mod_lt _ (by omega)
    have hgg : (A : Int) % (l.length : Int) = (G : Int) := by rw [hG]; simp
    have hG0 : (0 : Int) ≤ (G : Int) := by omega
    have hG1 : (G : Int) < (l.length : Int) := by omega
    have hrm : IntKind.i64.wrap ((A : Int).tmod (l.length : Int)) = (G : Int) := by
      rw [Int.tmod_eq_emod_of_nonneg (by omega), hgg]; exact IntWalk.i64_in _ (by omega)
    have hnl : ¬ ((l.length : Int) = 0) := by omega
    have hwm : (wh : Int).tmod 20 = (K : Int) := by rw [Int.tmod_eq_emod_of_nonneg (by omega), hkk]
    have htm : (A : Int).tmod (l.length : Int) = (G : Int) := by rw [Int.tmod_eq_emod_of_nonneg (by omega), hgg]
    have hpos : 0 < l.length := by omega
    have hlg := List.all_eq_true.1 hlight l[G] (List.getElem_mem hGl)
    unfold lightNd at hlg
    simp only [Bool.and_eq_true, decide_eq_true_eq] at hlg
    obtain ⟨hs1, hs2, hs3, -⟩ := hlg
    have hbase : base ≤ w.drew.heap.size := by have := h.size; have := h.low; show base ≤ w.heap.size; omega
    clear hG
    go_upto_region 3 with (fail)
    refine wp_region_held_drew (S := (fun w' => w'.cell? ⟨p, 6, none⟩ = some (.slice (some ⟨g, 0, none⟩) l.length c))) (by kernel_rfl) ?_ (fun hHeld => ?_)
    · (try dsimp only)
      (first | exact p6 | exact HS.out _ (Ext.refl _).drew | exact Y6)
    refine take_w 0 (some 13) (v := ?_) (by kernel_rfl) (by kernel_rfl) (by kernel_rfl) (by kernel_rfl) (by kernel_rfl) (fun _ _ _ h => h) (by rfl) ?_ (by assumption) ?_
    rotate_left
    · (intro w hSw; (try dsimp only at hSw); go_simp; try with_reducible rfl)
    try simp only [Act.put, List.setIfInBounds_toArray, List.set_cons_zero, List.set_cons_succ]
    refine take_w 1 (some 14) (v := ?_) (by kernel_rfl) (by kernel_rfl) (by kernel_rfl) (by kernel_rfl) (by kernel_rfl) (fun _ _ _ h => h) (by rfl) ?_ (by assumption) ?_
    rotate_left
    · (intro w hSw; (try dsimp only at hSw); go_simp; try with_reducible rfl)
    try simp only [Act.put, List.setIfInBounds_toArray, List.set_cons_zero, List.set_cons_succ]
    refine take_w 2 (some 15) (v := ?_) (by kernel_rfl) (by kernel_rfl) (by kernel_rfl) (by kernel_rfl) (by kernel_rfl) (fun _ _ _ h => h) (by rfl) ?_ (by assumption) ?_
    rotate_left
    · (intro w hSw; (try dsimp only at hSw); go_simp; try with_reducible rfl)
    try simp only [Act.put, List.setIfInBounds_toArray, List.set_cons_zero, List.set_cons_succ]
    refine take_w 3 (some 16) (v := ?_) (by kernel_rfl) (by kernel_rfl) (by kernel_rfl) (by kernel_rfl) (by kernel_rfl) (fun _ _ _ h => h) (by rfl) ?_ (by assumption) ?_
    rotate_left
    · (intro w hSw; (try dsimp only at hSw); go_simp; try with_reducible rfl)
    try simp only [Act.put, List.setIfInBounds_toArray, List.set_cons_zero, List.set_cons_succ]
    refine take_w 4 (some 17) (v := ?_) (by kernel_rfl) (by kernel_rfl) (by kernel_rfl) (by kernel_rfl) (by kernel_rfl) (fun _ _ _ h => h) (by rfl) ?_ (by assumption) ?_
    rotate_left
    · (intro w hSw; (try dsimp only at hSw); go_simp; try with_reducible rfl)
    try simp only [Act.put, List.setIfInBounds_toArray, List.set_cons_zero, List.set_cons_succ]
    refine take_w 5 (some 18) (v := ?_) (by kernel_rfl) (by kernel_rfl) (by kernel_rfl) (by kernel_rfl) (by kernel_rfl) (fun _ _ _ h => h) (by rfl) ?_ (by assumption) ?_
    rotate_left
    · (intro w hSw; (try dsimp only at hSw); go_simp; try with_reducible rfl)
    try simp only [Act.put, List.setIfInBounds_toArray, List.set_cons_zero, List.set_cons_succ]
    refine take_w 6 (some 19) (v := ?_) (by kernel_rfl) (by kernel_rfl) (by kernel_rfl) (by kernel_rfl) (by kernel_rfl) (fun _ _ _ h => h) (by rfl) ?_ (by assumption) ?_
    rotate_left
    · (intro w hSw; (try dsimp only at hSw); go_simp; try with_reducible rfl)
    try simp only [Act.put, List.setIfInBounds_toArray, List.set_cons_zero, List.set_cons_succ]
    refine take_w 7 (some 20) (v := ?_) (by kernel_rfl) (by kernel_rfl) (by kernel_rfl) (by kernel_rfl) (by kernel_rfl) (fun _ _ _ h => h) (by rfl) ?_ (by assumption) ?_
    rotate_left
    · (intro w hSw; (try dsimp only at hSw); go_simp; try with_reducible rfl)
    try simp only [Act.put, List.setIfInBounds_toArray, List.set_cons_zero, List.set_cons_succ]
    refine take_w 8 (some 21) (v := ?_) (by kernel_rfl) (by kernel_rfl) (by kernel_rfl) (by kernel_rfl) (by kernel_rfl) (fun _ _ _ h => h) (by rfl) ?_ (by assumption) ?_
    rotate_left
    · (intro w hSw; (try dsimp only at hSw); go_simp; try with_reducible rfl)
    try simp only [Act.put, List.setIfInBounds_toArray, List.set_cons_zero, List.set_cons_succ]
    refine take_w 9 (some 22) (v := ?_) (by kernel_rfl) (by kernel_rfl) (by kernel_rfl) (by kernel_rfl) (by kernel_rfl) (fun _ _ _ h => h) (by rfl) ?_ (by assumption) ?_
    rotate_left
    · (intro w hSw; (try dsimp only at hSw); go_simp; try with_reducible rfl)
    try simp only [Act.put, List.setIfInBounds_toArray, List.set_cons_zero, List.set_cons_succ]
    refine take_w 10 (some 23) (v := ?_) (by kernel_rfl) (by kernel_rfl) (by kernel_rfl) (by kernel_rfl) (by kernel_rfl) (fun _ _ _ h => h) (by rfl) ?_ (by assumption) ?_
    rotate_left
    · (intro w hSw; (try dsimp only at hSw); go_simp; try with_reducible rfl)
    try simp only [Act.put, List.setIfInBounds_toArray, List.set_cons_zero, List.set_cons_succ]
    refine take_w 11 (some 24) (v := ?_) (by kernel_rfl) (by kernel_rfl) (by kernel_rfl) (by kernel_rfl) (by kernel_rfl) (fun _ _ _ h => h) (by rfl) ?_ (by assumption) ?_
    rotate_left
    · (intro w hSw; (try dsimp only at hSw); go_simp; try with_reducible rfl)
    try simp only [Act.put, List.setIfInBounds_toArray, List.set_cons_zero, List.set_cons_succ]
    refine take_w 12 (some 25) (v := ?_) (by kernel_rfl) (by kernel_rfl) (by kernel_rfl) (by kernel_rfl) (by kernel_rfl) (fun _ _ _ h => h) (by rfl) ?_ (by assumption) ?_
    rotate_left
    · (intro w hSw; (try dsimp only at hSw); go_simp; try with_reducible rfl)
    try simp only [Act.put, List.setIfInBounds_toArray, List.set_cons_zero, List.set_cons_succ]
    refine take_w 13 (some 26) (v := ?_) (by kernel_rfl) (by kernel_rfl) (by kernel_rfl) (by kernel_rfl) (by kernel_rfl) (fun _ _ _ h => h) (by rfl) ?_ (by assumption) ?_
    rotate_left
    · (intro w hSw; (try dsimp only at hSw); go_simp; try with_reducible rfl)
    try simp only [Act.put, List.setIfInBounds_toArray, List.set_cons_zero, List.set_cons_succ]
    refine take_w 14 (some 27) (v := ?_) (by kernel_rfl) (by kernel_rfl) (by kernel_rfl) (by kernel_rfl) (by kernel_rfl) (fun _ _ _ h => h) (by rfl) ?_ (by assumption) ?_
    rotate_left
    · (intro w hSw; (try dsimp only at hSw); go_simp; try with_reducible rfl)
    try simp only [Act.put, List.setIfInBounds_toArray, List.set_cons_zero, List.set_cons_succ]
    refine take_w 15 (some 28) (v := ?_) (by kernel_rfl) (by kernel_rfl) (by kernel_rfl) (by kernel_rfl) (by kernel_rfl) (fun _ _ _ h => h) (by rfl) ?_ (by assumption) ?_
    rotate_left
    · (intro w hSw; (try dsimp only at hSw); go_simp; try with_reducible rfl)
    try simp only [Act.put, List.setIfInBounds_toArray, List.set_cons_zero, List.set_cons_succ]
    refine take_w 16 (some 29) (v := ?_) (by kernel_rfl) (by kernel_rfl) (by kernel_rfl) (by kernel_rfl) (by kernel_rfl) (fun _ _ _ h => h) (by rfl) ?_ (by assumption) ?_
    rotate_left
    · (intro w hSw; (try dsimp only at hSw); go_simp; try with_reducible rfl)
    try simp only [Act.put, List.setIfInBounds_toArray, List.set_cons_zero, List.set_cons_succ]
    refine take_w 17 (some 30) (v := ?_) (by kernel_rfl) (by kernel_rfl) (by kernel_rfl) (by kernel_rfl) (by kernel_rfl) (fun _ _ _ h => h) (by rfl) ?_ (by assumption) ?_
    rotate_left
    · (intro w hSw; (try dsimp only at hSw); go_simp; try with_reducible rfl)
    try simp only [Act.put, List.setIfInBounds_toArray, List.set_cons_zero, List.set_cons_succ]
    refine take_w 18 (some 31) (v := ?_) (by kernel_rfl) (by kernel_rfl) (by kernel_rfl) (by kernel_rfl) (by kernel_rfl) (fun _ _ _ h => h) (by rfl) ?_ (by assumption) ?_
    rotate_left
    · (intro w hSw; (try dsimp only at hSw); go_simp; try with_reducible rfl)
    try simp only [Act.put, List.setIfInBounds_toArray, List.set_cons_zero, List.set_cons_succ]
    refine take_w 19 (some 32) (v := ?_) (by kernel_rfl) (by kernel_rfl) (by kernel_rfl) (by kernel_rfl) (by kernel_rfl) (fun _ _ _ h => h) (by rfl) ?_ (by assumption) ?_
    rotate_left
    · (intro w hSw; (try dsimp only at hSw); go_simp; try with_reducible rfl)
    try simp only [Act.put, List.setIfInBounds_toArray, List.set_cons_zero, List.set_cons_succ]
    refine take_w 20 (some 33) (v := ?_) (by kernel_rfl) (by kernel_rfl) (by kernel_rfl) (by kernel_rfl) (by kernel_rfl) (fun _ _ _ h => h) (by rfl) ?_ (by assumption) ?_
    rotate_left
    · (intro w hSw; (try dsimp only at hSw); go_simp; try with_reducible rfl)
    try simp only [Act.put, List.setIfInBounds_toArray, List.set_cons_zero, List.set_cons_succ]
    refine ready_one 21 (by kernel_rfl) (by kernel_rfl) (by rfl) (fun Kc hKc => ?_)
    go_simp
    refine (nturn_any _ base top g c G p l O (h.ext (Ext.refl w).drew) hGl hO (fun b hb => hN b hb) hbase K (by omega) hK20 hs1 hs2 hs3).mono ?_
    rintro e y1 ⟨rfl, n', hne, hrig, hkeep⟩
    have hkw1 := hkeep.block p hpl hpO
    have Y6 : y1.cell? ⟨p, 6, none⟩ = some (.slice (some ⟨g, 0, none⟩) l.length c) := (World.cell?_of_block (a := ⟨p, 6, none⟩) hkw1).trans p6
    have hb1 : BoxL y1 p [.int .i64 cq, .int .i64 cd, .int .i64 cw, .int .i64 cr, .int .i64 cf, .int .i64 fl, .slice (some ⟨g, 0, none⟩) l.length c, .int .i64 tk] := ⟨Nat.lt_of_lt_of_le hb.lt hkeep.size, fun j u hu => (World.cell?_of_block (a := ⟨p, j, none⟩) hkw1).trans (hb.cell j u hu), fun j => (World.frozen?_of_block (a := ⟨p, j, none⟩) hkw1).trans (hb.free j)⟩
    have HB1 := Lib.hid hb1
    have HK1 : Hid (Keep (fun b => O b ∨ b = p) w y1) := Lib.hid (((Keep.refl _ w).ext (Ext.refl w).drew).trans (hkeep.mono (fun b hb => .inl hb)))
    have HR1 := Lib.hid hrig
    have HN1 : Hid ((⟨cq, cd, cw, cr, cf, fl, l.set G n', tk⟩ : Sn) ≠ ⟨cq, cd, cw, cr, cf, fl, l, tk⟩) := Lib.hid (fun e => nodes_ne hGl hne (congrArg Sn.nodes e))
    clear hne hrig hkeep hkw1 hb1
    try go_wp2_with fail
    refine hKc.out _ _ ?_ (fun hHeld => ?_)
    · (try dsimp only)
      (first | exact p6 | exact HS.out _ (Ext.refl _).drew | exact Y6)
    clear hKc Kc
    try simp only [Act.put, List.setIfInBounds_toArray, List.set_cons_zero, List.set_cons_succ]
    refine take_w 22 (some 35) (v := ?_) (by kernel_rfl) (by kernel_rfl) (by kernel_rfl) (by kernel_rfl) (by kernel_rfl) (fun _ _ _ h => h) (by rfl) ?_ (by assumption) ?_
    rotate_left
    · (intro w hSw; (try dsimp only at hSw); go_simp; try with_reducible rfl)
    try simp only [Act.put, List.setIfInBounds_toArray, List.set_cons_zero, List.set_cons_succ]
    refine take_w 23 (some 6) (v := ?_) (by kernel_rfl) (by kernel_rfl) (by kernel_rfl) (by kernel_rfl) (by kernel_rfl) (fun _ _ _ h => h) (by rfl) ?_ (by assumption) ?_
    rotate_left
    · (intro w hSw; (try dsimp only at hSw); go_simp; try with_reducible rfl)
    try simp only [Act.put, List.setIfInBounds_toArray, List.set_cons_zero, List.set_cons_succ]
    refine wpAnyH_done (by kernel_rfl) ?_ _
    go_wp2
    go_ret
    exact .inr ⟨rfl, _, _, _, HN1.out, ⟨w0, w1, w2, w3, w4, w5, w6_⟩, by simp only [List.length_set]; exact HB1.out, by simp only [List.length_set]; exact HR1.out, HK1.out⟩
end Go.Proofs.YtdienbcjfljjnaaDoor
