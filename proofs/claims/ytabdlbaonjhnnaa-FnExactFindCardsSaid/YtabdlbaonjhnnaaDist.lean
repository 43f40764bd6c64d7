/- The distance of two cards; in the program and in the reference. -/
import Derived.Test.YtabdlbaonjhnnaaPair
import Derived.Test.YtabdlbaonjhnnaaOnes
namespace Go.Proofs.Ytabdlbaonjhnnaa
open Go.RowKit

/-- In how many places the first k columns differ. -/
def distTo (xs ys : List Int) : Nat → Int
  | 0 => 0
  | k + 1 => distTo xs ys k + diffI (xs.getD k 0) (ys.getD k 0)
def distV (xs ys : List Int) : Int := distTo xs ys xs.length
theorem getD_hole {xs : List Int} (h : cardOk xs = true) (k : Nat) : 0 ≤ xs.getD k 0 ∧ xs.getD k 0 ≤ 4095 := by
  by_cases hk : k < xs.length
  · have := cardOk_hole h hk
    simpa [List.getD, List.getElem?_eq_getElem hk] using this
  · simp [List.getD, List.getElem?_eq_none (Nat.le_of_not_lt hk)]
theorem getD_at {xs : List Int} {k : Nat} (hk : k < xs.length) : xs.getD k 0 = xs[k] := by simp [List.getD, List.getElem?_eq_getElem hk]
theorem distTo_range {xs ys : List Int} (h : cardOk xs = true) (h' : cardOk ys = true) (k : Nat) : 0 ≤ distTo xs ys k ∧ distTo xs ys k ≤ 12 * k := by
  induction k with
  | zero => simp [distTo]
  | succ k ih =>
    have h1 := getD_hole h k
    have h2 := getD_hole h' k
    have := diffI_range h1.1 h1.2 h2.1 h2.2
    simp only [distTo]
    omega
theorem distTo_comm {xs ys : List Int} (h : cardOk xs = true) (h' : cardOk ys = true) (k : Nat) : distTo xs ys k = distTo ys xs k := by
  induction k with
  | zero => rfl
  | succ k ih =>
    have h1 := getD_hole h k
    have h2 := getD_hole h' k
    simp only [distTo, ih, diffI_comm h1.1 h1.2 h2.1 h2.2]
theorem distV_range {xs ys : List Int} (h : cardOk xs = true) (h' : cardOk ys = true) : 0 ≤ distV xs ys ∧ distV xs ys ≤ 240 := by
  have := distTo_range h h' xs.length
  have := cardOk_len h
  unfold distV
  omega
theorem distTo_zero {xs ys : List Int} (h : cardOk xs = true) (h' : cardOk ys = true) (k : Nat) : distTo xs ys k = 0 ↔ ∀ j, j < k → xs.getD j 0 = ys.getD j 0 := by
  induction k with
  | zero => simp [distTo]
  | succ k ih =>
    have h1 := getD_hole h k
    have h2 := getD_hole h' k
    have h3 := diffI_range h1.1 h1.2 h2.1 h2.2
    have h4 := distTo_range h h' k
    have h5 := diffI_zero h1.1 h1.2 h2.1 h2.2
    simp only [distTo]
    constructor
    · intro h6 j hj
      rcases Nat.lt_succ_iff_lt_or_eq.1 hj with hj | rfl
      · exact ih.1 (by omega) j hj
      · exact h5.1 (by omega)
    · intro h6
      have h7 := ih.2 fun j hj => h6 j (by omega)
      have h8 := h5.2 (h6 k (by omega))
      omega
theorem distV_zero {xs ys : List Int} (h : cardOk xs = true) (h' : cardOk ys = true) (hl : ys.length = xs.length) : distV xs ys = 0 ↔ xs = ys := by
  unfold distV
  rw [distTo_zero h h']
  constructor
  · intro h1
    apply List.ext_getElem hl.symm
    intro k hk hk'
    have := h1 k hk
    rwa [getD_at hk, getD_at hk'] at this
  · rintro rfl j _
    rfl

end Go.Proofs.Ytabdlbaonjhnnaa
