/- IsPlanFor; in the program. -/
import Derived.Test.YtkcnahjgkhgebaaGreatPlanFor
import Derived.Test.YtkcnahjgkhgebaaGreatPlan
import Derived.Test.YtkcnahjgkhgebaaGreatIdle
import Derived.Test.YtkcnahjgkhgebaaGreatLater
namespace Go.Proofs.YtkcnahjgkhgebaaGreat
open Go.RowKit

def ipC (L : List (List Int)) (ps : List (Int × Int)) (a b : Int) : Int := if deckOk L = true then (if passesOk (deckW L : Int) ps = true then codeK L a b else 2) else 1
def ipR (L : List (List Int)) (ps : List (Int × Int)) (a b : Int) : Bool := decide (ipC L ps a b = 0) && decide (runL L ps = sortedL L a b)
theorem ipR_no {L : List (List Int)} {ps : List (Int × Int)} {a b : Int} (h : ipC L ps a b ≠ 0) : ipR L ps a b = false := by unfold ipR; rw [decide_eq_false h]; rfl
theorem ipR_yes {L : List (List Int)} {ps : List (Int × Int)} {a b : Int} (h : ipC L ps a b = 0) : ipR L ps a b = decide (runL L ps = sortedL L a b) := by unfold ipR; rw [decide_eq_true h]; rfl
theorem ipC_1 {L : List (List Int)} {ps : List (Int × Int)} {a b : Int} (h : deckOk L = false) : ipC L ps a b = 1 ∧ ipR L ps a b = false := by
  have h1 : ipC L ps a b = 1 := by unfold ipC; rw [if_neg (by simp [h])]
  exact ⟨h1, ipR_no (by rw [h1]; decide)⟩
theorem ipC_p {L : List (List Int)} {ps : List (Int × Int)} {a b : Int} (h : deckOk L = true) (h2 : passesOk (deckW L : Int) ps = false) : ipC L ps a b = 2 ∧ ipR L ps a b = false := by
  have h1 : ipC L ps a b = 2 := by unfold ipC; rw [if_pos h, if_neg (by simp [h2])]
  exact ⟨h1, ipR_no (by rw [h1]; decide)⟩
theorem ipC_k {L : List (List Int)} {ps : List (Int × Int)} {a b : Int} (h : deckOk L = true) (h2 : passesOk (deckW L : Int) ps = true) : ipC L ps a b = codeK L a b := by unfold ipC; rw [if_pos h, if_pos h2]
theorem ipC_f {L : List (List Int)} {ps : List (Int × Int)} {a b : Int} (h : deckOk L = true) (h2 : fieldOk a b (deckW L : Int) = false) : ipC L ps a b = 2 ∧ ipR L ps a b = false := by
  have h1 : ipC L ps a b = 2 := by
    unfold ipC
    rw [if_pos h]
    split
    · exact codeK_2 h h2
    · rfl
  exact ⟨h1, ipR_no (by rw [h1]; decide)⟩
theorem ipC_8 {L : List (List Int)} {ps : List (Int × Int)} {a b : Int} (h : deckOk L = true) (h2 : passesOk (deckW L : Int) ps = true) (h3 : fieldOk a b (deckW L : Int) = true) (h4 : haveF L a b = false) : ipC L ps a b = 8 ∧ ipR L ps a b = false := by
  have h1 : ipC L ps a b = 8 := by rw [ipC_k h h2]; exact codeK_8 h h3 h4
  exact ⟨h1, ipR_no (by rw [h1]; decide)⟩
theorem ipC_0 {L : List (List Int)} {ps : List (Int × Int)} {a b : Int} (h : deckOk L = true) (h2 : passesOk (deckW L : Int) ps = true) (h3 : fieldOk a b (deckW L : Int) = true) (h4 : haveF L a b = true) : ipC L ps a b = 0 ∧ ipR L ps a b = decide (runL L ps = sortedL L a b) := by
  have h1 : ipC L ps a b = 0 := by rw [ipC_k h h2]; exact codeK_0 h h3 h4
  exact ⟨h1, ipR_yes h1⟩

end Go.Proofs.YtkcnahjgkhgebaaGreat
