/- What FnDamages leans on: its sizes, lists of numbers that are the same, illegal columns; the plain laws. -/
import Derived.Test.YtkmejkeanmjfbaaDmDraw
import Derived.Test.YtkmejkeanmjfbaaHoles
import Derived.Test.YtkmejkeanmjfbaaDistLaw
import Derived.Test.YtkmejkeanmjfbaaFix
namespace Go.Proofs.Ytkmejkeanmjfbaa
open Go.RowKit

/-! ### holes that one card has and the other has not -/
theorem wrap_nat_zero {r : Nat} (h : r < 18446744073709551616) (hz : IntKind.i64.wrap (r : Int) = 0) : r = 0 := by
  rw [IntKind.wrap_i64] at hz
  omega
theorem andn_both {a b : Int} (h0 : 0 ≤ a) (h1 : a ≤ 4095) (h2 : 0 ≤ b) (h3 : b ≤ 4095) (h : bits .andNot .i64 a b = 0) (k : bits .andNot .i64 b a = 0) : a = b := by
  have e1 : BitVec.ofInt 64 a &&& ~~~BitVec.ofInt 64 b = 0#64 := by
    apply BitVec.eq_of_toNat_eq
    exact wrap_nat_zero (BitVec.isLt _) h
  have e2 : BitVec.ofInt 64 b &&& ~~~BitVec.ofInt 64 a = 0#64 := by
    apply BitVec.eq_of_toNat_eq
    exact wrap_nat_zero (BitVec.isLt _) k
  have e : BitVec.ofInt 64 a = BitVec.ofInt 64 b := by
    apply BitVec.eq_of_getLsbD_eq
    intro i hi
    have c1 := congrArg (fun v => v.getLsbD i) e1
    have c2 := congrArg (fun v => v.getLsbD i) e2
    simp only [BitVec.getLsbD_and, BitVec.getLsbD_not, hi, decide_true, Bool.true_and, BitVec.getLsbD_zero] at c1 c2
    revert c1 c2
    cases (BitVec.ofInt 64 a).getLsbD i <;> cases (BitVec.ofInt 64 b).getLsbD i <;> simp
  have := congrArg BitVec.toInt e
  rw [BitVec.toInt_ofInt, BitVec.toInt_ofInt] at this
  rw [Int.bmod_def, Int.bmod_def] at this
  omega
theorem andn_self (a : Int) : bits .andNot .i64 a a = 0 := by
  unfold bits
  simp only
  rw [BitVec.and_not_self]
  rfl
theorem cols_nil {p : Nat → Bool} {n : Nat} : (colsWhere p n).length = 0 ↔ ∀ k, k < n → p k = false := by
  unfold colsWhere
  rw [List.length_map, List.length_eq_zero_iff, List.filter_eq_nil_iff]
  constructor
  · intro h k hk
    have := h k (List.mem_range.2 hk)
    simpa using this
  · intro h k hk
    simp [h k (List.mem_range.1 hk)]
theorem dam_zero {xs ys : List Int} (hz : pairC xs ys = 0) : distRes xs ys = 0 ↔ (addedRes xs ys).length = 0 ∧ (lostRes xs ys).length = 0 := by
  obtain ⟨h1, h2, h3⟩ := pairC_zero hz
  unfold distRes addedRes lostRes
  rw [if_pos hz, if_pos hz, if_pos hz, cols_nil, cols_nil]
  unfold distV
  rw [distTo_zero h1 h2]
  unfold moreAt
  constructor
  · intro h
    exact ⟨fun k hk => by rw [h k hk, andn_self]; rfl, fun k hk => by rw [h k hk, andn_self]; rfl⟩
  · rintro ⟨h, k⟩ j hj
    have a1 := getD_hole h1 j
    have a2 := getD_hole h2 j
    have b1 := h j hj
    have b2 := k j hj
    exact andn_both a1.1 a1.2 a2.1 a2.2 (by simpa using b2) (by simpa using b1)
theorem dist_swap (xs ys : List Int) : distRes ys xs = distRes xs ys := by
  unfold distRes
  rw [pairC_swap ys xs]
  by_cases h : pairC xs ys = 0
  · rw [if_pos h, if_pos h]
    obtain ⟨h1, h2, h3⟩ := pairC_zero h
    unfold distV
    rw [distTo_comm h2 h1, h3]
  · rw [if_neg h, if_neg h]
theorem f6big_no (A : Option Addr) (n c : Nat) (w : World) (h : ¬ 4096 < n) : Calls Try.prog 4 #[.slice A n c] w fun e w' => e = .returned (.bool false) ∧ w = w' := by
  have i1 : ¬ (4096 : Int) < (n : Int) := by omega
  go_enter Try.func4, Try.ntmps4
  go_wp2
  go_ret
  exact ⟨ret_bool (by simp [i1]), rfl⟩
theorem f6big_yes (A : Option Addr) (n c : Nat) (w : World) (h : 4096 < n) : Calls Try.prog 4 #[.slice A n c] w fun e w' => e = .returned (.bool true) ∧ w = w' := by
  have i1 : (4096 : Int) < (n : Int) := by omega
  go_enter Try.func4, Try.ntmps4
  go_wp2
  go_ret
  exact ⟨ret_bool (by simp [i1]), rfl⟩
end Go.Proofs.Ytkmejkeanmjfbaa
