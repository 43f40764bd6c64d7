/- Cards: validity, columns, copies, blank cards; in the program and in the reference. -/
import Derived.Test.YtkmejkeanmjfbaaDoorBasics
import Derived.Test.YtkmejkeanmjfbaaDoorFuncsInts
namespace Go.Proofs.YtkmejkeanmjfbaaDoor
open Go.RowKit

def holeB (m : Int) : Bool := insideB m 0 4095
def cardOk (xs : List Int) : Bool := insideB (xs.length : Int) 1 20 && xs.all holeB
theorem cardOk_len {xs : List Int} (h : cardOk xs = true) : 1 ≤ xs.length ∧ xs.length ≤ 20 := by
  simp only [cardOk, Bool.and_eq_true] at h
  have := insideB_true h.1
  omega
theorem cardOk_hole {xs : List Int} (h : cardOk xs = true) {k : Nat} (hk : k < xs.length) : 0 ≤ xs[k] ∧ xs[k] ≤ 4095 := by
  simp only [cardOk, Bool.and_eq_true] at h
  exact insideB_true (List.all_eq_true.1 h.2 _ (List.getElem_mem hk))
theorem any_not_allI {α : Type} (p : α → Bool) (l : List α) : (l.any fun x => !p x) = !l.all p := by
  induction l with
  | nil => rfl
  | cons a l ih => simp [ih]

theorem zeros_ints (n : Nat) : (madeCells (Value.cells (.int .i64 0)) (n * 1)).toList = ints (List.replicate n 0) := by
  rw [Nat.mul_one]
  show (madeCells #[.int .i64 0] n).toList = _
  rw [toList_madeCells_one]
  simp [ints]
/-- The columns that are chosen. -/
def colsWhere (p : Nat → Bool) (n : Nat) : List Int := ((List.range n).filter p).map fun k : Nat => (k : Int)
theorem colsWhere_succ (p : Nat → Bool) (n : Nat) : colsWhere p (n + 1) = colsWhere p n ++ (if p n = true then [(n : Int)] else []) := by
  unfold colsWhere
  rw [List.range_succ, List.filter_append, List.map_append]
  congr 1
  cases h : p n <;> simp [h]
theorem colsWhere_yes {p : Nat → Bool} {n : Nat} (h : p n = true) : colsWhere p (n + 1) = colsWhere p n ++ [(n : Int)] := by rw [colsWhere_succ, if_pos h]
theorem colsWhere_no {p : Nat → Bool} {n : Nat} (h : p n = false) : colsWhere p (n + 1) = colsWhere p n := by rw [colsWhere_succ, if_neg (by simp [h]), List.append_nil]
theorem colsWhere_le (p : Nat → Bool) (n : Nat) : (colsWhere p n).length ≤ n := by
  have := List.length_filter_le p (List.range n)
  simp only [colsWhere, List.length_map, List.length_range] at this ⊢
  exact this
theorem colsWhere_congr {p q : Nat → Bool} {n : Nat} (h : ∀ k, k < n → p k = q k) : colsWhere p n = colsWhere q n := by
  unfold colsWhere
  congr 1
  exact List.filter_congr fun k hk => h k (List.mem_range.1 hk)

end Go.Proofs.YtkmejkeanmjfbaaDoor
