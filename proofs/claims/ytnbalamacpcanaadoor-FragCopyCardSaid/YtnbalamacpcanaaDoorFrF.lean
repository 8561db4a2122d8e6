/- Light fragments: plain facts. No program is imported. -/
import Derived.Test.YtnbalamacpcanaaDoorFr
namespace Fm
open Go Go.RowKit

def lightI (x : It) : Bool := decide (x.after.length ≤ 40) && decide (x.name.length ≤ 100) && decide (x.over.length ≤ 100) && x.after.all (fun s => decide (s.length ≤ 100))
def fewF (l : List It) : Bool := l.all lightI && decide (l.length ≤ 60)
theorem lightI_iff {x : It} : lightI x = true ↔ x.after.length ≤ 40 ∧ x.name.length ≤ 100 ∧ x.over.length ≤ 100 ∧ ∀ s, s ∈ x.after → s.length ≤ 100 := by unfold lightI; simp [and_assoc]
theorem lightI_mk {x : It} (h1 : x.after.length ≤ 40) (h2 : x.name.length ≤ 100) (h3 : x.over.length ≤ 100) (h4 : x.after.all (fun s => decide (s.length ≤ 100)) = true) : lightI x = true := by
  unfold lightI; rw [h4]; simp [h1, h2, h3]
theorem lightI_after {x : It} (h : 40 < x.after.length) : lightI x = false := by
  cases e : lightI x with
  | false => rfl
  | true => have := (lightI_iff.1 e).1; omega
theorem lightI_name {x : It} (h : 100 < x.name.length) : lightI x = false := by
  cases e : lightI x with
  | false => rfl
  | true => have := (lightI_iff.1 e).2.1; omega
theorem lightI_over {x : It} (h : 100 < x.over.length) : lightI x = false := by
  cases e : lightI x with
  | false => rfl
  | true => have := (lightI_iff.1 e).2.2.1; omega
theorem lightI_text {x : It} {k : Nat} (hk : k < x.after.length) (h : 100 < x.after[k].length) : lightI x = false := by
  cases e : lightI x with
  | false => rfl
  | true => have := (lightI_iff.1 e).2.2.2 _ (List.getElem_mem hk); omega
theorem fewF_not {l : List It} {j : Nat} (hj : j < l.length) (h : lightI l[j] = false) : fewF l = false := by
  unfold fewF
  have : l.all lightI = false := by rw [List.all_eq_false]; exact ⟨l[j], List.getElem_mem hj, by simp [h]⟩
  rw [this]; rfl
theorem fewF_iff {l : List It} : fewF l = true ↔ (∀ x, x ∈ l → lightI x = true) ∧ l.length ≤ 60 := by unfold fewF; simp
end Fm
