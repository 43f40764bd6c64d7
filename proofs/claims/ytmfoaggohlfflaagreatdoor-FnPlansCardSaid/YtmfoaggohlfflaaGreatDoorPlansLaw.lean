/- The full plan of a field of the first three columns, less any one pass, does not always sort. No walk here. -/
import Derived.Test.YtmfoaggohlfflaaGreatDoorFullSorts
import Derived.Test.YtmfoaggohlfflaaGreatDoorFewAll
import Derived.Test.YtmfoaggohlfflaaGreatDoorDigitPlan
import Derived.Test.YtmfoaggohlfflaaGreatDoorPText2
namespace Go.Proofs.YtmfoaggohlfflaaGreatDoor
open Go.RowKit

theorem less_fin : ∀ i : Fin 3, ∀ j : Fin 4, i.val < j.val → ∀ k : Fin 6, k.val < 2 * (j.val - i.val) →
    alwB ((planOf (j.val : Int) (j.val - i.val)).take k.val ++ (planOf (j.val : Int) (j.val - i.val)).drop (k.val + 1)) (i.val : Int) (j.val : Int) = false := by decide +kernel
theorem less_not {i j k : Nat} (hij : i < j) (hj : j ≤ 3) (hk : k < 2 * (j - i)) :
    alwB ((planOf (j : Int) (j - i)).take k ++ (planOf (j : Int) (j - i)).drop (k + 1)) (i : Int) (j : Int) = false :=
  less_fin ⟨i, by omega⟩ ⟨j, by omega⟩ hij ⟨k, by omega⟩ hk
theorem planOf_bound {i j : Nat} (hij : i < j) (hj : j ≤ 20) : ∀ p ∈ planOf (j : Int) (j - i), inC p.1 := fun p hp => by
  have := planOf_at hp
  unfold inC
  omega
theorem planOf_ok {i j : Nat} (hj : j ≤ 20) (hij : i < j) : modesOk (planOf (j : Int) (j - i)) = true := List.all_eq_true.2 fun p hp => by
  rcases planOf_modes _ _ p hp with h | h <;> simp [modeB, h]
theorem plan_text {i j : Nat} (hij : i < j) (hj : j ≤ 20) : passT (planOf (j : Int) (j - i)) ≠ [] := by
  rw [passT_yes (planOf_ok hj hij)]
  obtain ⟨p, ps, h⟩ : ∃ p ps, planOf (j : Int) (j - i) = p :: ps := by
    cases h : planOf (j : Int) (j - i) with
    | nil => have := planOf_length (j : Int) (j - i); rw [h] at this; simp at this; omega
    | cons p ps => exact ⟨p, ps, rfl⟩
  rw [h]
  unfold ptJ ptoks
  rw [List.map_cons, Lib.join_cons]
  simp [ptok, itoa_ne]
end Go.Proofs.YtmfoaggohlfflaaGreatDoor
