/- A value's text: plain facts. No program is imported. -/
import Derived.Test.YtnbalamacpcanaaDoorTreeR
import Derived.Lib.ItoaNum
namespace Fm
open Go Go.RowKit

/-- A digit of sixteen. -/
def hexd (n : Nat) : UInt8 := UInt8.ofNat (if n < 10 then 48 + n else 55 + n)
def plainC (c : UInt8) : Bool := decide (32 < c.toNat ∧ c.toNat ≤ 126 ∧ c.toNat ≠ 34 ∧ c.toNat ≠ 37)
def escC (c : UInt8) : List UInt8 := if plainC c = true then [c] else [37, hexd (c.toNat / 16), hexd (c.toNat % 16)]
def escB (s : List UInt8) : List UInt8 := s.flatMap escC
theorem escB_nil : escB [] = [] := rfl
theorem escB_at (s : List UInt8) (i : Nat) (hi : i < s.length) : escB (s.take (i + 1)) = escB (s.take i) ++ escC s[i] := by
  unfold escB
  rw [List.take_add_one, List.getElem?_eq_getElem hi, List.flatMap_append]
  simp only [Option.toList_some, List.flatMap_cons, List.flatMap_nil, List.append_nil]
theorem escC_le (c : UInt8) : (escC c).length ≤ 3 := by unfold escC; split <;> simp
theorem escB_le : ∀ s : List UInt8, (escB s).length ≤ 3 * s.length
  | [] => by simp [escB]
  | c :: s => by
    have h1 := escC_le c
    have h2 := escB_le s
    have e : escB (c :: s) = escC c ++ escB s := by simp [escB]
    rw [e, List.length_append, List.length_cons]; omega

/-- Texts with commas between. -/
def joinB : List (List UInt8) → List UInt8
  | [] => []
  | x :: xs => x ++ xs.flatMap fun y => 44 :: y
theorem joinB_at (l : List (List UInt8)) (i : Nat) (hi : i < l.length) : joinB (l.take (i + 1)) = joinB (l.take i) ++ (if i = 0 then [] else [44]) ++ l[i] := by
  cases l with
  | nil => simp at hi
  | cons x xs =>
    cases i with
    | zero => simp [joinB]
    | succ i =>
      simp only [List.take_succ_cons, joinB, List.getElem_cons_succ]
      rw [List.take_add_one, List.getElem?_eq_getElem (by simpa using hi), List.flatMap_append]
      simp only [Option.toList_some, List.flatMap_cons, List.flatMap_nil, List.append_nil, List.append_assoc]
      rw [if_neg (by omega)]
      rfl
/-- A value's text. -/
def showT : Tr → List UInt8
  | .node k n s l => if k = 0 then Lib.itoa n else if k = 1 then 34 :: (escB s ++ [34]) else 91 :: (joinB (l.map showT) ++ [93])
def showL (l : List Tr) : List UInt8 := joinB (l.map showT)
theorem showT_node (k : UInt8) (n : Int) (s : List UInt8) (l : List Tr) : showT (.node k n s l) = if k = 0 then Lib.itoa n else if k = 1 then 34 :: (escB s ++ [34]) else 91 :: (showL l ++ [93]) := by rw [showT]; rfl
theorem showL_nil : showL [] = [] := rfl
theorem showL_at (l : List Tr) (i : Nat) (hi : i < l.length) : showL (l.take (i + 1)) = showL (l.take i) ++ (if i = 0 then [] else [44]) ++ showT l[i] := by
  unfold showL
  have h := joinB_at (l.map showT) i (by simpa using hi)
  rw [← List.map_take, ← List.map_take, List.getElem_map] at h
  exact h
theorem joinB_le : ∀ (l : List (List UInt8)), (joinB l).length ≤ (l.map List.length).sum + l.length
  | [] => by simp [joinB]
  | x :: xs => by
    have : ∀ ys : List (List UInt8), (ys.flatMap fun y => 44 :: y).length = (ys.map List.length).sum + ys.length := by
      intro ys
      induction ys with
      | nil => simp
      | cons y ys ih => simp [List.flatMap_cons, ih]; omega
    have h := this xs
    simp [joinB, h]; omega
theorem joinB_take_le (l : List (List UInt8)) (i : Nat) : (joinB (l.take i)).length ≤ (joinB l).length := by
  induction i generalizing l with
  | zero => simp [joinB]
  | succ i ih =>
    cases l with
    | nil => simp [joinB]
    | cons x xs =>
      simp only [List.take_succ_cons, joinB, List.length_append]
      have h : xs.flatMap (fun y => 44 :: y) = (xs.take i).flatMap (fun y => (44 : UInt8) :: y) ++ (xs.drop i).flatMap (fun y => (44 : UInt8) :: y) := by
        rw [← List.flatMap_append, List.take_append_drop]
      rw [h, List.length_append]; omega
theorem showL_take_le (l : List Tr) (i : Nat) : (showL (l.take i)).length ≤ (showL l).length := by
  unfold showL; rw [List.map_take]; exact joinB_take_le _ _

/-- Short numbers. -/
theorem decDigits_le (k : Nat) : ∀ u : Nat, u < 10 ^ (k + 1) → (Lib.decDigits u).length ≤ k + 1 := by
  induction k with
  | zero => intro u h; rw [Lib.decDigits, dif_pos (by omega)]; simp
  | succ k ih =>
    intro u h
    rw [Lib.decDigits]
    split
    · simp
    · rw [List.length_append]
      have := ih (u / 10) (by rw [Nat.pow_succ] at h; omega)
      simp; omega
theorem itoa_le {n : Int} (h : isI64 n) : (Lib.itoa n).length ≤ 20 := by
  unfold isI64 at h
  unfold Lib.itoa
  split
  · have := decDigits_le 18 n.natAbs (by have : (10 : Nat) ^ 19 = 10000000000000000000 := by decide
                                         omega)
    simp; omega
  · have := decDigits_le 18 n.toNat (by have : (10 : Nat) ^ 19 = 10000000000000000000 := by decide
                                        omega)
    omega
theorem showT_le (t : Tr) : kindsT t = true → NumsT t → (showT t).length ≤ 310 * partsT t := by
  induction t using Tr.ind with
  | h k n s l ih =>
    intro hk hn
    rw [kindsT_node, Bool.and_eq_true] at hk
    have hl : ∀ l' : List Tr, (∀ t, t ∈ l' → t ∈ l) → ((l'.map showT).map List.length).sum ≤ 310 * partsL l' := by
      intro l'
      induction l' with
      | nil => intro _; simp
      | cons t ts iht =>
        intro hs
        have h1 := ih t (hs t (List.mem_cons_self ..)) (List.all_eq_true.1 hk.2 t (hs t (List.mem_cons_self ..))) (hn.list t (hs t (List.mem_cons_self ..)))
        have h2 := iht (fun x hx => hs x (List.mem_cons_of_mem _ hx))
        simp only [List.map_cons, List.sum_cons, partsL_cons]; omega
    have hl := hl l (fun _ h => h)
    have hj := joinB_le (l.map showT)
    rw [List.length_map] at hj
    rw [showT_node, partsT_node]
    by_cases h0 : k = 0
    · rw [if_pos h0]; have := itoa_le hn.num; omega
    · rw [if_neg h0]
      by_cases h1 : k = 1
      · rw [if_pos h1]
        have := escB_le s
        have := (plainB_one hk.1 h1).2.2
        simp; omega
      · rw [if_neg h1]
        have hm := (plainB_two hk.1 h0 h1).2.2.2
        unfold showL
        simp; omega
theorem right_show {t : Tr} (h : rightT t = true) (hn : NumsT t) : (showT t).length ≤ 62000 := by
  obtain ⟨h1, _, h3⟩ := rightT_iff.1 h
  have := showT_le t h1 hn
  omega
end Fm
