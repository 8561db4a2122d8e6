/- Walks: strings.Builder's Write; FormatInt. -/
import Derived.Test.YtnbalamacpcanaaDoorShelf
import Derived.Test.YtnbalamacpcanaaDoorVaM
import Derived.Test.YtnbalamacpcanaaDoorPlA
open Go.RowKit Go.Shelf
namespace Go.Proofs.YtnbalamacpcanaaDoor
open Go Go.Proofs Fm

/-- A builder in block b, of the call's own from block B on, holds these bytes. -/
def Bld (B b : Nat) (xs : List UInt8) (w : World) : Prop := Lib.IsBuilder 107 5 B b (xs.map bv) w
/-- .. and has been written. -/
def BldU (B b : Nat) (xs : List UInt8) (w : World) : Prop := Lib.BuilderAt 107 5 B b (.pointer (some ⟨b, 0, none⟩)) (xs.map bv) w
theorem BldU.bld {B b : Nat} {xs : List UInt8} {w : World} (h : BldU B b xs w) : Bld B b xs w := .inr h
theorem BldU.lt {B b : Nat} {xs : List UInt8} {w : World} (h : BldU B b xs w) : B ≤ b ∧ b < w.heap.size := ⟨h.1, Lib.BuilderAt.lt h⟩
/-- It stays where nothing else but new memory comes. -/
theorem BldU.ext {B b : Nat} {xs : List UInt8} {w w' : World} (h : BldU B b xs w) (hE : Ext w w') : BldU B b xs w' := by
  have hlt := h.lt.2
  obtain ⟨h1, v, hb, ho, hn⟩ := h
  exact ⟨h1, v, (hE.block b hlt).trans hb, hE.own ho, hn⟩
theorem Bld.lt {B b : Nat} {xs : List UInt8} {w : World} (h : Bld B b xs w) : B ≤ b ∧ b < w.heap.size := by
  rcases h with h | h
  · exact ⟨h.1, Lib.BuilderAt.lt h⟩
  · exact ⟨h.1, Lib.BuilderAt.lt h⟩
theorem Bld.ext {B b : Nat} {xs : List UInt8} {w w' : World} (h : Bld B b xs w) (hE : Ext w w') : Bld B b xs w' := by
  have hlt := h.lt.2
  rcases h with h | h
  · obtain ⟨h1, v, hb, ho, hn⟩ := h
    exact .inl ⟨h1, v, (hE.block b hlt).trans hb, hE.own ho, hn⟩
  · obtain ⟨h1, v, hb, ho, hn⟩ := h
    exact .inr ⟨h1, v, (hE.block b hlt).trans hb, hE.own ho, hn⟩

/-- In which block its buffer lies. -/
def bufAt (w : World) (b : Nat) : Option Nat := match w.heap[b]? with
  | some (.cells cs _ _) => (cs.getD 1 undef).ownBlock
  | _ => none
/-- Block k is none of the builder's. -/
def Apart (w : World) (b k : Nat) : Prop := k < w.heap.size ∧ k ≠ b ∧ bufAt w b ≠ some k
/-- What is none of the builder's stays as it is, and none of its. -/
def Keep (b : Nat) (w w' : World) : Prop := ∀ k, Apart w b k → w'.heap[k]? = w.heap[k]? ∧ Apart w' b k
theorem Keep.refl (b : Nat) (w : World) : Keep b w w := fun _ h => ⟨rfl, h⟩
theorem Keep.trans {b : Nat} {x y z : World} (h : Keep b x y) (k : Keep b y z) : Keep b x z := fun i hi => by
  obtain ⟨a1, a2⟩ := h i hi
  obtain ⟨b1, b2⟩ := k i a2
  exact ⟨b1.trans a1, b2⟩
theorem bufAt_ext {w w' : World} {b : Nat} (hE : Ext w w') (hb : b < w.heap.size) : bufAt w' b = bufAt w b := by unfold bufAt; rw [hE.block b hb]
theorem Keep.of_ext {w w' : World} {b : Nat} (hE : Ext w w') (hb : b < w.heap.size) : Keep b w w' := fun k h => by
  refine ⟨hE.block k h.1, Nat.lt_of_lt_of_le h.1 hE.size, h.2.1, ?_⟩
  rw [bufAt_ext hE hb]; exact h.2.2
theorem Apart.box {w w' : World} {b k : Nat} (h : Apart w b k) (hk : Keep b w w') {c0 c1 c2 c3 : Value} (hx : Box4 w k c0 c1 c2 c3) : Box4 w' k c0 c1 c2 c3 := ((hk k h).1).trans hx
theorem BldU.buf {B b : Nat} {xs : List UInt8} {w : World} (h : BldU B b xs w) : ∀ k, bufAt w b = some k → B ≤ k ∧ k < w.heap.size := by
  obtain ⟨_, v, hb, ho, _⟩ := h
  intro k hk
  unfold bufAt at hk
  rw [hb] at hk
  exact ho.lt k hk
/-- What is new is none of the builder's. -/
theorem BldU.apart {B b : Nat} {xs : List UInt8} {w : World} (h : BldU B b xs w) (o : Obj) : Apart (w.alloc o) b w.heap.size := by
  have hlt := h.lt.2
  refine ⟨by simp, by omega, fun e => ?_⟩
  rw [bufAt_ext ((Ext.refl w).alloc o) hlt] at e
  have := (h.buf _ e).2
  omega

/-- What is written is behind it. -/
def WrotePost (B b : Nat) (xs : List UInt8) (w : World) (r : Value) (e : Ending) (w' : World) : Prop := e = .returned r ∧ BldU B b xs w' ∧ Below B w w' ∧ Keep b w w'

theorem copyCheck_any {B b : Nat} {xs : List UInt8} {w : World} (h : Bld B b xs w) :
    Calls Tryd.prog 160 #[.pointer (some ⟨b, 0, none⟩)] w (WrotePost B b xs w (.tuple #[])) := by
  rcases h with h | h
  · refine (Any.Builder_copyCheck_fresh (L := { Tryd.lays167 with }) Tryd.Builder_Extra_167.toX72 b w h.cell0 h.shape h.frozen0).mono ?_
    rintro e w' ⟨rfl, rfl⟩
    refine ⟨rfl, h.used _, (Below.refl B w).setCell (p := ⟨b, 0, none⟩) h.1 _, fun k hk => ?_⟩
    have e1 : bufAt (w.setCell ⟨b, 0, none⟩ (.pointer (some ⟨b, 0, none⟩))) b = bufAt w b := by
      obtain ⟨_, v, hb, _⟩ := h
      unfold bufAt
      rw [hb]
      simp [World.setCell, Array.getElem?_modify, hb]
    have hne : k ≠ b := hk.2.1
    refine ⟨Below.heap_setCell _ _ _ _ (by simpa using hne), by simpa [World.setCell] using hk.1, hk.2.1, ?_⟩
    rw [e1]; exact hk.2.2
  · refine (Any.Builder_copyCheck_used (L := { Tryd.lays167 with }) Tryd.Builder_Extra_167.toX72 b w h.cell0).mono ?_
    rintro e w' ⟨rfl, rfl⟩
    exact ⟨rfl, h, Below.refl B _, Keep.refl _ _⟩

/-- 'append(s, x...)', s of one's own, x any slice of bytes; and where it lies. -/
theorem appBt {w : World} {ops : Array Oper} {rest : List Oper} {o : Oper} {a : Act} {Q : Exit → Act → World → Prop}
    (hg : Region.wanted o (yielded ops a.tmps) = true) (s x : Operand) (hop : o.op = Op.call { callee := Callee.builtin Builtin.append, args := #[s, x], argTypes := #[25, 25] }) {base : Nat}
    {v : Value} {xs : List UInt8} (hs : a.eval s = v) (hown : OwnB base w v xs) {X : Value} {ys : List UInt8} (hx : a.eval x = X) (hsrc : Bytes w X ys)
    (b1 : xs.length + ys.length ≤ 70368744177664) (b3 : base ≤ w.heap.size)
    (hK : ∀ v' w', OwnB base w' v' (xs ++ ys) → w.grownBy w' v.ownBlock → (v'.ownBlock = v.ownBlock ∨ v'.ownBlock = some w.heap.size) → wpList Tryd.prog ops Q rest (a.put o.dst v') w') :
    wpList Tryd.prog ops Q (o :: rest) a w := by
  refine wpList_appAt w elem_u8 hg s x 25 hop base v _ _ hs hown X _ _ hx (Src.bytes Tryd.underlying25 hsrc) (by unfold maxLen; omega) (by omega) b3 (fun v' w' h1 h2 h3 => hK v' w' ?_ h2 h3)
  unfold OwnB; rw [List.length_append, List.map_append]; exact h1
theorem appSt {w : World} {ops : Array Oper} {rest : List Oper} {o : Oper} {a : Act} {Q : Exit → Act → World → Prop}
    (hg : Region.wanted o (yielded ops a.tmps) = true) (s x : Operand) (hop : o.op = Op.call { callee := Callee.builtin Builtin.append, args := #[s, x], argTypes := #[25, 9] }) {base : Nat}
    {v : Value} {xs : List UInt8} (hs : a.eval s = v) (hown : OwnB base w v xs) {ys : List UInt8} (hx : a.eval x = .string (str ys))
    (b1 : xs.length + ys.length ≤ 70368744177664) (b3 : base ≤ w.heap.size)
    (hK : ∀ v' w', OwnB base w' v' (xs ++ ys) → w.grownBy w' v.ownBlock → (v'.ownBlock = v.ownBlock ∨ v'.ownBlock = some w.heap.size) → wpList Tryd.prog ops Q rest (a.put o.dst v') w') :
    wpList Tryd.prog ops Q (o :: rest) a w := by
  have hsrc := Src.string (P := Tryd.prog) Tryd.underlying9 w (str ys)
  rw [str_list] at hsrc
  refine wpList_appAt w elem_u8 hg s x 9 hop base v _ _ hs hown _ _ _ hx hsrc (by unfold maxLen; omega) (by omega) b3 (fun v' w' h1 h2 h3 => hK v' w' ?_ h2 h3)
  unfold OwnB; rw [List.length_append, List.map_append]; exact h1

/-- A new buffer is laid into the builder. -/
theorem wrote {B b : Nat} {xs zs : List UInt8} {w wa w2 : World} {v v' : Value} (hBb : B ≤ b) (hbk : w.heap[b]? = some (.cells #[.pointer (some ⟨b, 0, none⟩), v] 107 (0, 0))) (ho : OwnB B w v xs) (hn : v.ownBlock ≠ some b) (hE : Ext w wa) (hB : B ≤ wa.heap.size)
    (hown' : OwnB B w2 v' zs) (hg : wa.grownBy w2 v.ownBlock) (hat : v'.ownBlock = v.ownBlock ∨ v'.ownBlock = some wa.heap.size) :
    w2.cell? ⟨b, 1, none⟩ = some v ∧ w2.frozen? ⟨b, 1, none⟩ = false ∧ BldU B b zs (w2.setCell ⟨b, 1, none⟩ v') ∧ Below B w (w2.setCell ⟨b, 1, none⟩ v') ∧ Keep b w (w2.setCell ⟨b, 1, none⟩ v') := by
  have hlt : b < w.heap.size := (Array.getElem?_eq_some_iff.1 hbk).1
  have hba := blk_ext hbk hE
  have hz := hE.size
  have hb2 : w2.heap[b]? = some (.cells #[.pointer (some ⟨b, 0, none⟩), v] 107 (0, 0)) := by
    rw [hg.block b (by omega) (fun e => hn e.symm)]; exact hba
  have h1 : (w2.setCell ⟨b, 1, none⟩ v').heap[b]? = some (.cells #[.pointer (some ⟨b, 0, none⟩), v'] 107 (0, 0)) := by simp [World.setCell, Array.getElem?_modify, hb2]
  refine ⟨(blk_cell hb2 1).trans rfl, blk_free hb2 1, ?_, ?_, ?_⟩
  · exact Lib.BuilderAt.put (T := 107) (e := 5) hBb hb2 (bs' := zs.map bv) (by rw [List.length_map]; exact hown') Tryd.Builder_Extra_167.neB5
  · exact (((Below.refl B w).trans (hE.mono (by have := ho.lt; omega))).grown hg hB (fun k hk => (ho.lt k hk).1)).setCell (p := ⟨b, 1, none⟩) hBb _
  · intro k hk
    have e0 : bufAt w b = v.ownBlock := by unfold bufAt; rw [hbk]; rfl
    have e1 : bufAt (w2.setCell ⟨b, 1, none⟩ v') b = v'.ownBlock := by unfold bufAt; rw [h1]; rfl
    have hkv : v.ownBlock ≠ some k := by rw [← e0]; exact hk.2.2
    refine ⟨?_, ?_, hk.2.1, ?_⟩
    · rw [Below.heap_setCell _ _ _ _ (by simpa using hk.2.1), hg.block k (by have := hk.1; omega) (fun e => hkv e.symm)]
      exact hE.block k hk.1
    · have := hg.size; have := hk.1; simp [World.setCell]; omega
    · rw [e1]
      rcases hat with h | h
      · rw [h]; exact hkv
      · rw [h]; intro e; injection e with e; have := hk.1; omega

theorem BldU.open {B b : Nat} {xs : List UInt8} {w : World} (h : BldU B b xs w) : B ≤ b ∧ ∃ v, w.heap[b]? = some (.cells #[.pointer (some ⟨b, 0, none⟩), v] 107 (0, 0)) ∧ OwnB B w v xs ∧ v.ownBlock ≠ some b := by
  obtain ⟨h1, v, hb, ho, hn⟩ := h
  rw [List.length_map] at ho
  exact ⟨h1, v, hb, ho, hn⟩

set_option maxRecDepth 100000 in
set_option maxHeartbeats 2000000 in
theorem wbyte_any {B b : Nat} {xs : List UInt8} {w : World} (h : Bld B b xs w) (c : UInt8) (hl : xs.length ≤ 1000000000000) (hB : B ≤ w.heap.size) :
    Calls Tryd.prog 116 #[.pointer (some ⟨b, 0, none⟩), .int .u8 (c.toNat : Int)] w (WrotePost B b (xs ++ [c]) w .nilIface) := by
  have H := Lib.hid h
  clear h
  go_enter Tryd.func116, Tryd.ntmps116
  go_wp2_with fail
  refine (copyCheck_any H.out).mono ?_
  rintro e w1 ⟨rfl, hu, hB1, hK1⟩
  obtain ⟨hBb, v, hbk, ho, hn⟩ := hu.open
  have c1 : w1.cell? ⟨b, 1, none⟩ = some v := (blk_cell hbk 1).trans rfl
  have hb1 : B ≤ w1.heap.size := Nat.le_trans hB hB1.size
  have HO := Lib.hid ho
  have HK := Lib.hid hbk
  have HN := Lib.hid hn
  have HB1 := Lib.hid hB1
  have HK1 := Lib.hid hK1
  clear ho hbk hn hu hB1 hK1
  go_wp2_with (at_builtin; refine appBt rfl _ _ rfl rfl (HO.out.ext ((Ext.refl w1).alloc _)) rfl (bytes_new w1 _ _ _ _ [c] rfl rfl rfl (by unfold maxLen; simp)) ?b1 (by simp; omega) ?_)
  case b1 => simp; omega
  intro v' w2 hown' hgrow hat
  obtain ⟨d1, f1, r1, r2, r3⟩ := wrote hBb HK.out HO.out HN.out ((Ext.refl w1).alloc _) (by simp; omega) hown' hgrow (by simpa using hat)
  obtain ⟨ao, n', cap, rfl⟩ : ∃ ao n' cap, v' = .slice ao n' cap := by
    rcases hown'.2 with ⟨hv, _⟩ | ⟨g, cap, cur, hv, _⟩
    · exact ⟨_, _, _, hv⟩
    · exact ⟨_, _, _, hv⟩
  have HX : Hid (WrotePost B b (xs ++ [c]) w .nilIface (.returned .nilIface) (w2.setCell ⟨b, 1, none⟩ (.slice ao n' cap))) := Lib.hid ⟨rfl, r1, HB1.out.trans r2, HK1.out.trans r3⟩
  clear hown' hgrow hat r1 r2 r3
  go_wp2
  go_ret
  exact HX.out

set_option maxRecDepth 100000 in
set_option maxHeartbeats 2000000 in
theorem wstring_any {B b : Nat} {xs : List UInt8} {w : World} (h : Bld B b xs w) (s : List UInt8) (hl : xs.length ≤ 1000000000000) (hs : s.length ≤ 1000000000000) (hB : B ≤ w.heap.size) :
    Calls Tryd.prog 114 #[.pointer (some ⟨b, 0, none⟩), .string (str s)] w (WrotePost B b (xs ++ s) w (.tuple #[.int .i64 (s.length : Int), .nilIface])) := by
  have H := Lib.hid h
  clear h
  go_enter Tryd.func114, Tryd.ntmps114
  go_wp2_with fail
  refine (copyCheck_any H.out).mono ?_
  rintro e w1 ⟨rfl, hu, hB1, hK1⟩
  obtain ⟨hBb, v, hbk, ho, hn⟩ := hu.open
  have c1 : w1.cell? ⟨b, 1, none⟩ = some v := (blk_cell hbk 1).trans rfl
  have hb1 : B ≤ w1.heap.size := Nat.le_trans hB hB1.size
  have hsz := str_size s
  have HO := Lib.hid ho
  have HK := Lib.hid hbk
  have HN := Lib.hid hn
  have HB1 := Lib.hid hB1
  have HK1 := Lib.hid hK1
  clear ho hbk hn hu hB1 hK1
  go_wp2_with (at_builtin; refine appSt rfl _ _ rfl rfl HO.out rfl ?b1 hb1 ?_)
  case b1 => omega
  intro v' w2 hown' hgrow hat
  obtain ⟨d1, f1, r1, r2, r3⟩ := wrote hBb HK.out HO.out HN.out (Ext.refl w1) (by omega) hown' hgrow hat
  obtain ⟨ao, n', cap, rfl⟩ : ∃ ao n' cap, v' = .slice ao n' cap := by
    rcases hown'.2 with ⟨hv, _⟩ | ⟨g, cap, cur, hv, _⟩
    · exact ⟨_, _, _, hv⟩
    · exact ⟨_, _, _, hv⟩
  have HX : Hid (WrotePost B b (xs ++ s) w (.tuple #[.int .i64 (s.length : Int), .nilIface]) (.returned (.tuple #[.int .i64 (s.length : Int), .nilIface])) (w2.setCell ⟨b, 1, none⟩ (.slice ao n' cap))) := Lib.hid ⟨rfl, r1, HB1.out.trans r2, HK1.out.trans r3⟩
  clear hown' hgrow hat r1 r2 r3
  go_wp2
  go_ret2
  exact HX.out

theorem bstring_any {B b : Nat} {xs : List UInt8} {w : World} (h : Bld B b xs w) (hB : B ≤ w.heap.size) :
    Calls Tryd.prog 72 #[.pointer (some ⟨b, 0, none⟩)] w fun e w' => e = .returned (.string (str xs)) ∧ Below B w w' :=
  Tryd.Builder_String_any B b xs w h hB

set_option maxRecDepth 100000 in
set_option maxHeartbeats 2000000 in
theorem wbytes_any {B b : Nat} {xs : List UInt8} {w : World} (h : BldU B b xs w) (p : Value) (ys : List UInt8) (hp : Bytes w p ys) (hl : xs.length ≤ 1000000000000) (hs : ys.length ≤ 1000000000000) (hB : B ≤ w.heap.size) :
    Calls Tryd.prog 117 #[.pointer (some ⟨b, 0, none⟩), p] w (WrotePost B b (xs ++ ys) w (.tuple #[.int .i64 (ys.length : Int), .nilIface])) := by
  have H := Lib.hid h
  have HP := Lib.hid hp
  have hln := len_bytes hp
  clear hp
  clear h
  go_enter Tryd.func117, Tryd.ntmps117
  go_wp2_with fail
  refine (Any.Builder_copyCheck_used (L := { Tryd.lays167 with }) Tryd.Builder_Extra_167.toX72 b w H.out.cell0).mono ?_
  rintro e w1 ⟨rfl, rfl⟩
  have hu := H.out
  have hB1 := Below.refl B w1
  have hK1 := Keep.refl b w1
  obtain ⟨hBb, v, hbk, ho, hn⟩ := hu.open
  have c1 : w1.cell? ⟨b, 1, none⟩ = some v := (blk_cell hbk 1).trans rfl
  have hb1 : B ≤ w1.heap.size := Nat.le_trans hB hB1.size
  have HO := Lib.hid ho
  have HK := Lib.hid hbk
  have HN := Lib.hid hn
  have HB1 := Lib.hid hB1
  have HK1 := Lib.hid hK1
  clear ho hbk hn hu hB1 hK1
  go_wp2_with (at_builtin; refine appBt rfl _ _ rfl rfl HO.out rfl HP.out ?b1 hb1 ?_)
  case b1 => omega
  intro v' w2 hown' hgrow hat
  obtain ⟨d1, f1, r1, r2, r3⟩ := wrote hBb HK.out HO.out HN.out (Ext.refl w1) (by omega) hown' hgrow hat
  obtain ⟨ao, n', cap, rfl⟩ : ∃ ao n' cap, v' = .slice ao n' cap := by
    rcases hown'.2 with ⟨hv, _⟩ | ⟨g, cap, cur, hv, _⟩
    · exact ⟨_, _, _, hv⟩
    · exact ⟨_, _, _, hv⟩
  have HX : Hid (WrotePost B b (xs ++ ys) _ (.tuple #[.int .i64 (ys.length : Int), .nilIface]) (.returned (.tuple #[.int .i64 (ys.length : Int), .nilIface])) (w2.setCell ⟨b, 1, none⟩ (.slice ao n' cap))) := Lib.hid ⟨rfl, r1, HB1.out.trans r2, HK1.out.trans r3⟩
  clear hown' hgrow hat r1 r2 r3
  go_wp2
  go_ret2
  exact HX.out

end Go.Proofs.YtnbalamacpcanaaDoor
