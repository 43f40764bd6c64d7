/- Two cards at a time: their code, in the program and in the reference. -/
import Derived.Test.YtoakjfoioijaaaaCards
import Derived.Deep.RegionHeld3
namespace Go.Proofs.Ytoakjfoioijaaaa
open Go.RowKit

def pairC (xs ys : List Int) : Int := if cardOk xs = true ∧ cardOk ys = true then (if xs.length = ys.length then 0 else 2) else 1
theorem pairC_no1 {xs ys : List Int} (h : cardOk xs = false) : pairC xs ys = 1 := by unfold pairC; rw [if_neg (by simp [h])]
theorem pairC_no2 {xs ys : List Int} (h : cardOk ys = false) : pairC xs ys = 1 := by unfold pairC; rw [if_neg (by simp [h])]
theorem pairC_two {xs ys : List Int} (h1 : cardOk xs = true) (h2 : cardOk ys = true) (h : ¬ xs.length = ys.length) : pairC xs ys = 2 := by unfold pairC; rw [if_pos ⟨h1, h2⟩, if_neg h]
theorem pairC_ok {xs ys : List Int} (h1 : cardOk xs = true) (h2 : cardOk ys = true) (h : xs.length = ys.length) : pairC xs ys = 0 := by unfold pairC; rw [if_pos ⟨h1, h2⟩, if_pos h]
theorem pairC_zero {xs ys : List Int} (h : pairC xs ys = 0) : cardOk xs = true ∧ cardOk ys = true ∧ xs.length = ys.length := by
  unfold pairC at h
  split at h
  · rename_i h1
    split at h
    · rename_i h2
      exact ⟨h1.1, h1.2, h2⟩
    · simp at h
  · simp at h
theorem pairC_cases (xs ys : List Int) : pairC xs ys = 0 ∨ pairC xs ys = 1 ∨ pairC xs ys = 2 := by
  unfold pairC
  split
  · split
    · exact .inl rfl
    · exact .inr (.inr rfl)
  · exact .inr (.inl rfl)
theorem pairC_swap (xs ys : List Int) : pairC xs ys = pairC ys xs := by
  unfold pairC
  by_cases h : cardOk xs = true ∧ cardOk ys = true
  · rw [if_pos h, if_pos h.symm]
    by_cases h2 : xs.length = ys.length
    · rw [if_pos h2, if_pos h2.symm]
    · rw [if_neg h2, if_neg (fun e => h2 e.symm)]
  · rw [if_neg h, if_neg (fun e => h e.symm)]

end Go.Proofs.Ytoakjfoioijaaaa
