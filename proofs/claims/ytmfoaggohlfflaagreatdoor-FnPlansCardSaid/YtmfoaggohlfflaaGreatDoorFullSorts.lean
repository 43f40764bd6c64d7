/- The full plan of a field always sorts. No walk here. -/
import Derived.Test.YtmfoaggohlfflaaGreatDoorRadix
import Derived.Test.YtmfoaggohlfflaaGreatDoorShort
namespace Go.Proofs.YtmfoaggohlfflaaGreatDoor
open Go.RowKit

theorem char_places : ∀ x y : Fin 40, x.val < y.val → (placeI (codeV (charL[x.val]'x.isLt).toNat) 2 < placeI (codeV (charL[y.val]'y.isLt).toNat) 2 ∨
    (placeI (codeV (charL[x.val]'x.isLt).toNat) 2 = placeI (codeV (charL[y.val]'y.isLt).toNat) 2 ∧ placeI (codeV (charL[x.val]'x.isLt).toNat) 1 < placeI (codeV (charL[y.val]'y.isLt).toNat) 1)) := by decide +kernel
theorem pairR_full (b : Int) {c X Y : Int} (h : placeI X 2 < placeI Y 2 ∨ (placeI X 2 = placeI Y 2 ∧ placeI X 1 < placeI Y 1)) : ∀ n : Nat, b - (n : Int) ≤ c → c < b → pairR c X Y (planOf b n).reverse = true
  | 0, h1, h2 => by omega
  | n + 1, h1, h2 => by
    rw [planOf_succ, List.reverse_append]
    simp only [List.reverse_cons, List.reverse_nil, List.nil_append, List.cons_append, pairR]
    by_cases h3 : b - 1 - (n : Int) < c
    · rw [if_pos h3, if_pos h3]
      exact pairR_full b h n (by omega) h2
    · have h4 : ¬ c < b - 1 - (n : Int) := by omega
      simp only [if_neg h3, if_neg h4]
      rcases h with h | ⟨h, h'⟩
      · rw [if_neg (show ¬ placeI X 2 = placeI Y 2 by omega)]
        exact decide_eq_true h
      · rw [if_pos h, if_neg (show ¬ placeI X 1 = placeI Y 1 by omega)]
        exact decide_eq_true h'
theorem planOf_modes (b : Int) (n : Nat) : ∀ p ∈ planOf b n, p.2 = 1 ∨ p.2 = 2 := by
  intro p hp
  unfold planOf at hp
  obtain ⟨i, _, hi⟩ := List.mem_flatMap.1 hp
  simp only [List.mem_cons, List.not_mem_nil, or_false] at hi
  rcases hi with rfl | rfl <;> simp
theorem full_always {i j : Nat} (hij : i < j) : alwB (planOf (j : Int) (j - i)) (i : Int) (j : Int) = true := by
  unfold alwB
  rw [Bool.and_eq_true]
  constructor
  · unfold inB
    rw [List.all_eq_true]
    intro p hp
    have := planOf_at hp
    unfold insideB
    simp only [Bool.and_eq_true, decide_eq_true_eq]
    omega
  · unfold fldB
    rw [List.all_eq_true]
    intro n hn
    have hn := List.mem_range.1 hn
    unfold colB
    rw [List.all_eq_true]
    intro x hx
    unfold rowB
    rw [List.all_eq_true]
    intro y hy
    have hy := List.mem_range.1 hy
    rw [Bool.or_eq_true]
    by_cases hxy : y ≤ x
    · exact .inl (decide_eq_true hxy)
    · right
      unfold pairB
      rw [pairN_R _ _ _ _ _ (Nat.le_refl _), List.take_length, char_getD' (show x < 40 by omega), char_getD' hy]
      refine pairR_full _ (char_places ⟨x, by omega⟩ ⟨y, hy⟩ (by simp only; omega)) _ (by omega) (by omega)
/-- The full plan puts any deck into the order of its field. -/
theorem full_sorts {L : List (List Int)} {i j : Nat} (hok : deckOk L = true) (hij : i < j) (hj : j ≤ deckW L) (hv : haveF L (i : Int) (j : Int) = true) : runL L (planOf (j : Int) (j - i)) = sortedL L (i : Int) (j : Int) :=
  runL_sorts hok hij hj hv (full_always hij) (planOf_modes _ _)
end Go.Proofs.YtmfoaggohlfflaaGreatDoor
