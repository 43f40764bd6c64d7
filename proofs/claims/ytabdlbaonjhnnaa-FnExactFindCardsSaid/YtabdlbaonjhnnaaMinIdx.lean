/- The first least element; slices.Min, slices.Index at int64. -/
import Derived.Test.YtabdlbaonjhnnaaCards
import Derived.Test.YtabdlbaonjhnnaaLater
namespace Go.Proofs.Ytabdlbaonjhnnaa
open Go.RowKit

def bestTo (f : Nat → Int) : Nat → Nat
  | 0 => 0
  | k + 1 => if f k < f (bestTo f k) then k else bestTo f k
theorem bestTo_lt (f : Nat → Int) (k : Nat) (h : 0 < k) : bestTo f k < k := by
  induction k with
  | zero => omega
  | succ k ih =>
    simp only [bestTo]
    split
    · omega
    · by_cases h0 : k = 0
      · subst h0; simp [bestTo]
      · have := ih (by omega); omega
theorem bestTo_min (f : Nat → Int) (k j : Nat) (h : j < k) : f (bestTo f k) ≤ f j := by
  induction k with
  | zero => omega
  | succ k ih =>
    simp only [bestTo]
    by_cases hj : j = k
    · subst hj; split <;> omega
    · have := ih (by omega)
      split <;> omega
theorem bestTo_first (f : Nat → Int) (k j : Nat) (h : j < bestTo f k) : f (bestTo f k) < f j := by
  induction k with
  | zero => simp [bestTo] at h
  | succ k ih =>
    simp only [bestTo] at h ⊢
    split at h
    · rename_i hq
      rw [if_pos hq]
      have := bestTo_min f k j (by omega)
      omega
    · rename_i hq
      rw [if_neg hq]
      exact ih h
theorem bestTo_yes {f : Nat → Int} {k : Nat} (h : f k < f (bestTo f k)) : bestTo f (k + 1) = k := by simp only [bestTo, if_pos h]
theorem bestTo_no {f : Nat → Int} {k : Nat} (h : ¬ f k < f (bestTo f k)) : bestTo f (k + 1) = bestTo f k := by simp only [bestTo, if_neg h]
theorem bestTo_congr {f g : Nat → Int} {n : Nat} (h : ∀ k, k < n → f k = g k) : ∀ k, k ≤ n → bestTo f k = bestTo g k := by
  intro k
  induction k with
  | zero => intro _; rfl
  | succ k ih =>
    intro hk
    have e := ih (by omega)
    have hb : k = 0 ∨ bestTo g k < k := by
      by_cases h0 : k = 0
      · exact .inl h0
      · exact .inr (bestTo_lt g k (by omega))
    have hb' : bestTo g k < n := by
      rcases hb with h0 | h0
      · subst h0; simp [bestTo]; omega
      · omega
    simp only [bestTo, e, h k (by omega), h _ hb']
def atI (xs : List Int) (k : Nat) : Int := xs.getD k 0
theorem atI_get {xs : List Int} {k : Nat} (h : k < xs.length) : atI xs k = xs[k] := by simp [atI, List.getD, List.getElem?_eq_getElem h]

/-- The first place of the least element. -/
theorem idx_best {xs : List Int} (h : 1 ≤ xs.length) : idxP (fun x => atI xs (bestTo (atI xs) xs.length) == x) xs = (bestTo (atI xs) xs.length : Nat) := by
  have hb := bestTo_lt (atI xs) xs.length (by omega)
  refine idxP_some hb ?_ ?_
  · rw [List.any_eq_false]
    intro x hx
    obtain ⟨j, hj, rfl⟩ := List.mem_take_iff_getElem.1 hx
    have h1 := bestTo_first (atI xs) xs.length j (by omega)
    rw [atI_get (k := j) (by omega)] at h1
    simp
    omega
  · rw [atI_get hb]
    simp
end Go.Proofs.Ytabdlbaonjhnnaa
