/- Layer 16 (dot): the walk of the law DotOrders. -/
import Derived.Test.YtjlmbdhjpjbneaaD6
namespace Go.Proofs.Ytjlmbdhjpjbneaa
open Go.RowKit
set_option linter.unusedVariables false
set_option maxRecDepth 100000

/-- Which of two actors is ahead: one of three. -/
theorem three (d i d' i' : Int) : (aheadB d i d' i' = true ∧ aheadB d' i' d i = false ∧ orI (cmpI d d') (cmpI i i') = -1) ∨ (aheadB d i d' i' = false ∧ aheadB d' i' d i = true ∧ orI (cmpI d d') (cmpI i i') = 1) ∨
    (aheadB d i d' i' = false ∧ aheadB d' i' d i = false ∧ orI (cmpI d d') (cmpI i i') = 0) := by
  unfold aheadB orI cmpI
  rcases Int.lt_trichotomy d d' with h | h | h
  · left; simp [show ¬ d = d' by omega, show ¬ d' = d by omega, h]; omega
  · subst h
    rcases Int.lt_trichotomy i i' with h | h | h
    · left; simp [h]; omega
    · subst h; right; right; simp
    · right; left; simp [h, show ¬ i < i' by omega]
  · right; left; simp [show ¬ d = d' by omega, show ¬ d' = d by omega, h, show ¬ d < d' by omega]
theorem ord_less (d i s d' i' s' : Int) : decide (ordI d i s d' i' s' < 0) = rlessB d i s d' i' s' := by
  unfold ordI rlessB
  have h3 := three d i d' i'
  by_cases he : d = d' ∧ i = i'
  · rw [if_pos he]
    obtain ⟨rfl, rfl⟩ := he
    have : orI (cmpI d d) (cmpI i i) = 0 := by simp [orI, cmpI]
    rw [this]
    simp only [orI, if_true, cmpI]
    rcases Int.lt_trichotomy s s' with h | h | h
    · simp [h]
    · subst h; simp
    · simp [show ¬ s < s' by omega, h]
  · rw [if_neg he]
    rcases h3 with ⟨h1, h2, h3⟩ | ⟨h1, h2, h3⟩ | ⟨h1, h2, h3⟩
    · rw [h3, h1]; simp [orI]
    · rw [h3, h1]; simp [orI]
    · exfalso
      apply he
      unfold aheadB at h1 h2
      by_cases hd : d = d'
      · refine ⟨hd, ?_⟩
        simp [hd] at h1 h2
        omega
      · simp [hd, show ¬ d' = d from fun e => hd e.symm] at h1 h2
        omega
end Go.Proofs.Ytjlmbdhjpjbneaa
