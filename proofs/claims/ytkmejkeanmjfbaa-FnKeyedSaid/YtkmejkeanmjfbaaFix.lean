/- What the repair of a card gives: no walk of a whole function yet; the nearest character's code, and the sum of the distances. -/
import Derived.Test.YtkmejkeanmjfbaaCodeAll
import Derived.Test.YtkmejkeanmjfbaaNearAll
namespace Go.Proofs.Ytkmejkeanmjfbaa
open Go.RowKit

/-- The code of the nearest character. -/
def fixI (m : Int) : Int := codeV (nearTo m 40).1.toNat
theorem near_at (m : Int) (h0 : 0 ≤ m) (h1 : m ≤ 4095) : ∀ k, 1 ≤ k → k ≤ 40 → ∃ (j : Nat) (hj : j < 40), (nearTo m k).1 = charL[j]'hj ∧ (nearTo m k).2 = diffI m (codeV (charL[j]'hj).toNat) := by
  intro k
  induction k with
  | zero => intro h; omega
  | succ k ih =>
    intro _ h2
    by_cases hk : k = 0
    · subst hk
      rw [nearTo_one m h0 h1]
      exact ⟨0, by omega, rfl, rfl⟩
    · obtain ⟨j, hj, e1, e2⟩ := ih (by omega) (by omega)
      by_cases ht : diffI m (codeV (charL[k]'(by omega : k < 40)).toNat) < (nearTo m k).2
      · rw [near_yes (by omega) ht]
        exact ⟨k, by omega, rfl, rfl⟩
      · rw [near_no (by omega) ht]
        exact ⟨j, hj, e1, e2⟩
theorem fix_far (m : Int) (h0 : 0 ≤ m) (h1 : m ≤ 4095) : (nearTo m 40).2 = diffI m (fixI m) := by
  obtain ⟨j, hj, e1, e2⟩ := near_at m h0 h1 40 (by omega) (by omega)
  rw [e2, fixI, e1]
theorem fix_range (m : Int) (h0 : 0 ≤ m) (h1 : m ≤ 4095) : 0 ≤ fixI m ∧ fixI m ≤ 4095 := by
  obtain ⟨j, hj, e1, _⟩ := near_at m h0 h1 40 (by omega) (by omega)
  have := char_code j hj
  rw [fixI, e1]
  exact ⟨this.1, this.2.1⟩
theorem codeOf_fix (m : Int) (h0 : 0 ≤ m) (h1 : m ≤ 4095) (w : World) :
    Calls Try.prog 55 #[.int .u8 (nearTo m 40).1.toNat] w fun e w' => e = .returned (.int .i64 (fixI m)) ∧ w = w' := by
  obtain ⟨j, hj, e1, _⟩ := near_at m h0 h1 40 (by omega) (by omega)
  rw [fixI, e1]
  exact codeOf_ch j hj w
theorem l03Code_fix (m : Int) (h0 : 0 ≤ m) (h1 : m ≤ 4095) (w : World) :
    Calls Try.prog 57 #[.int .u8 (nearTo m 40).1.toNat] w fun e w' => e = .returned (.int .i64 (fixI m)) ∧ w = w' := by
  obtain ⟨j, hj, e1, _⟩ := near_at m h0 h1 40 (by omega) (by omega)
  rw [fixI, e1]
  exact l03Code_ch j hj w
def fixL (xs : List Int) : List Int := xs.map fixI
theorem fixL_length (xs : List Int) : (fixL xs).length = xs.length := by simp [fixL]
theorem fixL_get (xs : List Int) {k : Nat} (hk : k < xs.length) : (ints (fixL xs))[k]? = some (.int .i64 (fixI xs[k])) := by simp [ints, fixL, hk]
theorem fixL_ok {xs : List Int} (h : cardOk xs = true) : cardOk (fixL xs) = true := by
  simp only [cardOk, Bool.and_eq_true, fixL_length] at h ⊢
  refine ⟨h.1, ?_⟩
  rw [List.all_eq_true] at h ⊢
  intro y hy
  simp only [fixL, List.mem_map] at hy
  obtain ⟨x, hx, rfl⟩ := hy
  have h1 := insideB_true (h.2 x hx)
  have h2 := fix_range x h1.1 h1.2
  simp [holeB, insideB, h2]
/-- The sum of the distances of the first k columns. -/
theorem fix_sum {xs : List Int} (h : cardOk xs = true) {k : Nat} (hk : k < xs.length) : distTo xs (fixL xs) (k + 1) = distTo xs (fixL xs) k + (nearTo xs[k] 40).2 := by
  have h1 := getD_hole h k
  rw [getD_at hk] at h1
  rw [fix_far _ h1.1 h1.2]
  show distTo xs (fixL xs) k + diffI (xs.getD k 0) ((fixL xs).getD k 0) = _
  rw [getD_at hk, getD_at (by rw [fixL_length]; exact hk)]
  simp [fixL]
theorem fix_dist {xs : List Int} (h : cardOk xs = true) : distTo xs (fixL xs) xs.length = distV (fixL xs) xs := by
  unfold distV
  rw [fixL_length, distTo_comm h (fixL_ok h)]
end Go.Proofs.Ytkmejkeanmjfbaa
