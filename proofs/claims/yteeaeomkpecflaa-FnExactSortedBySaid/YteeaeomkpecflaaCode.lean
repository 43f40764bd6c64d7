/- The holes of characters, and the count of holes; in the program and in the reference. -/
import Derived.Test.YteeaeomkpecflaaBasics
namespace Go.Proofs.Yteeaeomkpecflaa
open Go.RowKit

def bitV (r : Int) : Int := if r = 12 then 1 else if r = 11 then 2 else if insideB r 0 9 = true then 4 * 2 ^ r.toNat else 0

theorem ten_cases {r : Int} (h0 : 0 ≤ r) (h1 : r ≤ 9) : r = 0 ∨ r = 1 ∨ r = 2 ∨ r = 3 ∨ r = 4 ∨ r = 5 ∨ r = 6 ∨ r = 7 ∨ r = 8 ∨ r = 9 := by omega

theorem bitOf_any (r : Int) (w : World) (h : (0 ≤ r ∧ r ≤ 9) ∨ r = 11 ∨ r = 12) :
    Calls Try.prog 129 #[.int .i64 r] w fun e w' => e = .returned (.int .i64 (bitV r)) ∧ w = w' := by
  rcases h with ⟨h0, h1⟩ | rfl | rfl
  · rcases ten_cases h0 h1 with rfl | rfl | rfl | rfl | rfl | rfl | rfl | rfl | rfl | rfl
    all_goals
      go_enter Try.func129, Try.ntmps129
      go_wp2_with fail
      refine (inside_any _ _ _ _).mono ?_; rintro e w1 ⟨rfl, rfl⟩
      go_wp2
      go_ret
      exact ⟨ret_int (by decide +kernel), rfl⟩
  · go_enter Try.func129, Try.ntmps129
    go_wp2
    go_ret
    exact ⟨ret_int (by decide +kernel), rfl⟩
  · go_enter Try.func129, Try.ntmps129
    go_wp2
    go_ret
    exact ⟨ret_int (by decide +kernel), rfl⟩

theorem l02Bit_any (r : Int) (w : World) (h : (0 ≤ r ∧ r ≤ 9) ∨ r = 11 ∨ r = 12) :
    Calls Try.prog 153 #[.int .i64 r] w fun e w' => e = .returned (.int .i64 (bitV r)) ∧ w = w' := by
  rcases h with ⟨h0, h1⟩ | rfl | rfl
  · rcases ten_cases h0 h1 with rfl | rfl | rfl | rfl | rfl | rfl | rfl | rfl | rfl | rfl
    all_goals
      go_enter Try.func153, Try.ntmps153
      go_wp2_with fail
      refine (l00In_any _ _ _ _).mono ?_; rintro e w1 ⟨rfl, rfl⟩
      go_wp2
      go_ret
      exact ⟨ret_int (by decide +kernel), rfl⟩
  · go_enter Try.func153, Try.ntmps153
    go_wp2
    go_ret
    exact ⟨ret_int (by decide +kernel), rfl⟩
  · go_enter Try.func153, Try.ntmps153
    go_wp2
    go_ret
    exact ⟨ret_int (by decide +kernel), rfl⟩

/-- The number of the holes of a character; -1 if there is none. -/
def codeV (n : Nat) : Int :=
  if n = 32 then 0 else if n = 38 then 1 else if n = 45 then 2 else if n = 47 then 12
  else if 48 ≤ n ∧ n ≤ 57 then 4 * 2 ^ (n - 48)
  else if 65 ≤ n ∧ n ≤ 73 then 1 + 4 * 2 ^ (n - 64)
  else if 74 ≤ n ∧ n ≤ 82 then 2 + 4 * 2 ^ (n - 73)
  else if 83 ≤ n ∧ n ≤ 90 then 4 + 4 * 2 ^ (n - 81)
  else -1
/-- All characters in the order of their ranks. -/
def charL : List UInt8 := [32, 38, 65, 66, 67, 68, 69, 70, 71, 72, 73, 45, 74, 75, 76, 77, 78, 79, 80, 81, 82, 47, 83, 84, 85, 86, 87, 88, 89, 90, 48, 49, 50, 51, 52, 53, 54, 55, 56, 57]
theorem char_cases (n : Nat) (h : n ≤ 255) : (n = 32 ∨ n = 38 ∨ n = 45 ∨ n = 47) ∨ (48 ≤ n ∧ n ≤ 57) ∨ (65 ≤ n ∧ n ≤ 73) ∨ (74 ≤ n ∧ n ≤ 82) ∨ (83 ≤ n ∧ n ≤ 90) ∨
    (n ≠ 32 ∧ n ≠ 38 ∧ n ≠ 45 ∧ n ≠ 47 ∧ (n < 48 ∨ 57 < n) ∧ (n < 65 ∨ 90 < n)) := by omega
theorem ret_ib {a b : Int} {p q : Bool} (h : a = b) (k : p = q) : Ending.returned (.tuple #[.int .i64 a, .bool p]) = .returned (.tuple #[.int .i64 b, .bool q]) := by rw [h, k]
theorem codeV_none {n : Nat} (h : n ≠ 32 ∧ n ≠ 38 ∧ n ≠ 45 ∧ n ≠ 47 ∧ (n < 48 ∨ 57 < n) ∧ (n < 65 ∨ 90 < n)) : codeV n = -1 := by
  obtain ⟨h1, h2, h3, h4, h5, h6⟩ := h
  unfold codeV
  rw [if_neg h1, if_neg h2, if_neg h3, if_neg h4, if_neg (by omega), if_neg (by omega), if_neg (by omega), if_neg (by omega)]

theorem range_48 {n : Nat} (h : 48 ≤ n ∧ n ≤ 57) : n = 48 ∨ n = 49 ∨ n = 50 ∨ n = 51 ∨ n = 52 ∨ n = 53 ∨ n = 54 ∨ n = 55 ∨ n = 56 ∨ n = 57 := by omega
theorem range_65 {n : Nat} (h : 65 ≤ n ∧ n ≤ 73) : n = 65 ∨ n = 66 ∨ n = 67 ∨ n = 68 ∨ n = 69 ∨ n = 70 ∨ n = 71 ∨ n = 72 ∨ n = 73 := by omega
theorem range_74 {n : Nat} (h : 74 ≤ n ∧ n ≤ 82) : n = 74 ∨ n = 75 ∨ n = 76 ∨ n = 77 ∨ n = 78 ∨ n = 79 ∨ n = 80 ∨ n = 81 ∨ n = 82 := by omega
theorem range_83 {n : Nat} (h : 83 ≤ n ∧ n ≤ 90) : n = 83 ∨ n = 84 ∨ n = 85 ∨ n = 86 ∨ n = 87 ∨ n = 88 ∨ n = 89 ∨ n = 90 := by omega
def digB (n : Int) : Bool := decide (48 ≤ n) && decide (n ≤ 57)
theorem isDigit_any (n : Int) (w : World) :
    Calls Try.prog 165 #[.int .u8 n] w fun e w' => e = .returned (.bool (digB n)) ∧ w = w' := by
  by_cases h1 : (48 : Int) ≤ n <;> by_cases h2 : n ≤ 57
  all_goals
    go_enter Try.func165, Try.ntmps165
    go_wp2
    go_ret
    exact ⟨ret_bool (by simp [digB, *]), rfl⟩
theorem isDigit_yes (n : Int) (h1 : 48 ≤ n) (h2 : n ≤ 57) (w : World) : Calls Try.prog 165 #[.int .u8 n] w fun e w' => e = .returned (.bool true) ∧ w = w' := by
  have := isDigit_any n w
  rwa [show digB n = true by simp [digB, *]] at this
theorem isDigit_no (n : Int) (h1 : n < 48 ∨ 57 < n) (w : World) : Calls Try.prog 165 #[.int .u8 n] w fun e w' => e = .returned (.bool false) ∧ w = w' := by
  have := isDigit_any n w
  rwa [show digB n = false by simp only [digB, Bool.and_eq_false_iff, decide_eq_false_iff_not]; omega] at this
theorem l01Digit_any (n : Int) (w : World) :
    Calls Try.prog 154 #[.int .u8 n] w fun e w' => e = .returned (.bool (digB n)) ∧ w = w' := by
  by_cases h1 : (48 : Int) ≤ n <;> by_cases h2 : n ≤ 57
  all_goals
    go_enter Try.func154, Try.ntmps154
    go_wp2
    go_ret
    exact ⟨ret_bool (by simp [digB, *]), rfl⟩
theorem l01Digit_yes (n : Int) (h1 : 48 ≤ n) (h2 : n ≤ 57) (w : World) : Calls Try.prog 154 #[.int .u8 n] w fun e w' => e = .returned (.bool true) ∧ w = w' := by
  have := l01Digit_any n w
  rwa [show digB n = true by simp [digB, *]] at this
theorem l01Digit_no (n : Int) (h1 : n < 48 ∨ 57 < n) (w : World) : Calls Try.prog 154 #[.int .u8 n] w fun e w' => e = .returned (.bool false) ∧ w = w' := by
  have := l01Digit_any n w
  rwa [show digB n = false by simp only [digB, Bool.and_eq_false_iff, decide_eq_false_iff_not]; omega] at this

set_option maxHeartbeats 8000000 in
theorem l03Code_any (n : Nat) (h : n ≤ 255) (w : World) :
    Calls Try.prog 142 #[.int .u8 n] w fun e w' => e = .returned (.int .i64 (codeV n)) ∧ w = w' := by
  rcases char_cases n h with hc | hc | hc | hc | hc | hc
  · rcases hc with rfl | rfl | rfl | rfl
    all_goals
      clear h
      go_enter Try.func142, Try.ntmps142
      go_wp2_with (first | (go_at_call 153; refine (l02Bit_any _ _ (by omega)).mono ?_; rintro e w1 ⟨rfl, rfl⟩) | (go_at_call 154; refine (l01Digit_yes _ (by omega) (by omega) _).mono ?_; rintro e w1 ⟨rfl, rfl⟩) | (go_at_call 154; refine (l01Digit_no _ (by omega) _).mono ?_; rintro e w1 ⟨rfl, rfl⟩))
      go_ret
      exact ⟨ret_int (by decide +kernel), rfl⟩
  · rcases range_48 hc with rfl | rfl | rfl | rfl | rfl | rfl | rfl | rfl | rfl | rfl
    all_goals
      clear h
      go_enter Try.func142, Try.ntmps142
      go_wp2_with (first | (go_at_call 153; refine (l02Bit_any _ _ (by omega)).mono ?_; rintro e w1 ⟨rfl, rfl⟩) | (go_at_call 154; refine (l01Digit_yes _ (by omega) (by omega) _).mono ?_; rintro e w1 ⟨rfl, rfl⟩) | (go_at_call 154; refine (l01Digit_no _ (by omega) _).mono ?_; rintro e w1 ⟨rfl, rfl⟩))
      go_ret
      exact ⟨ret_int (by decide +kernel), rfl⟩
  · rcases range_65 hc with rfl | rfl | rfl | rfl | rfl | rfl | rfl | rfl | rfl
    all_goals
      clear h
      go_enter Try.func142, Try.ntmps142
      go_wp2_with (first | (go_at_call 153; refine (l02Bit_any _ _ (by omega)).mono ?_; rintro e w1 ⟨rfl, rfl⟩) | (go_at_call 154; refine (l01Digit_yes _ (by omega) (by omega) _).mono ?_; rintro e w1 ⟨rfl, rfl⟩) | (go_at_call 154; refine (l01Digit_no _ (by omega) _).mono ?_; rintro e w1 ⟨rfl, rfl⟩))
      go_ret
      exact ⟨ret_int (by decide +kernel), rfl⟩
  · rcases range_74 hc with rfl | rfl | rfl | rfl | rfl | rfl | rfl | rfl | rfl
    all_goals
      clear h
      go_enter Try.func142, Try.ntmps142
      go_wp2_with (first | (go_at_call 153; refine (l02Bit_any _ _ (by omega)).mono ?_; rintro e w1 ⟨rfl, rfl⟩) | (go_at_call 154; refine (l01Digit_yes _ (by omega) (by omega) _).mono ?_; rintro e w1 ⟨rfl, rfl⟩) | (go_at_call 154; refine (l01Digit_no _ (by omega) _).mono ?_; rintro e w1 ⟨rfl, rfl⟩))
      go_ret
      exact ⟨ret_int (by decide +kernel), rfl⟩
  · rcases range_83 hc with rfl | rfl | rfl | rfl | rfl | rfl | rfl | rfl
    all_goals
      clear h
      go_enter Try.func142, Try.ntmps142
      go_wp2_with (first | (go_at_call 153; refine (l02Bit_any _ _ (by omega)).mono ?_; rintro e w1 ⟨rfl, rfl⟩) | (go_at_call 154; refine (l01Digit_yes _ (by omega) (by omega) _).mono ?_; rintro e w1 ⟨rfl, rfl⟩) | (go_at_call 154; refine (l01Digit_no _ (by omega) _).mono ?_; rintro e w1 ⟨rfl, rfl⟩))
      go_ret
      exact ⟨ret_int (by decide +kernel), rfl⟩
  · have HC := Lib.hid (codeV_none hc)
    obtain ⟨h1, h2, h3, h4, h5, h6⟩ := hc
    have i1 : ¬ (n : Int) = 32 := by omega
    have i2 : ¬ (n : Int) = 38 := by omega
    have i3 : ¬ (n : Int) = 45 := by omega
    have i4 : ¬ (n : Int) = 47 := by omega
    have i5 : (n : Int) < 48 ∨ 57 < (n : Int) := by omega
    rcases h6 with h6 | h6
    · have j1 : ¬ (65 : Int) ≤ (n : Int) := by omega
      have j2 : ¬ (74 : Int) ≤ (n : Int) := by omega
      have j3 : ¬ (83 : Int) ≤ (n : Int) := by omega
      clear h1 h2 h3 h4 h5 h6
      go_enter Try.func142, Try.ntmps142
      go_wp2_with (first | (go_at_call 153; refine (l02Bit_any _ _ (by omega)).mono ?_; rintro e w1 ⟨rfl, rfl⟩) | (go_at_call 154; refine (l01Digit_yes _ (by omega) (by omega) _).mono ?_; rintro e w1 ⟨rfl, rfl⟩) | (go_at_call 154; refine (l01Digit_no _ (by omega) _).mono ?_; rintro e w1 ⟨rfl, rfl⟩))
      go_ret
      exact ⟨ret_int HC.out.symm, rfl⟩
    · have j1 : ¬ (n : Int) ≤ 73 := by omega
      have j2 : ¬ (n : Int) ≤ 82 := by omega
      have j3 : ¬ (n : Int) ≤ 90 := by omega
      have j4 : (65 : Int) ≤ (n : Int) := by omega
      have j5 : (74 : Int) ≤ (n : Int) := by omega
      have j6 : (83 : Int) ≤ (n : Int) := by omega
      clear h1 h2 h3 h4 h5 h6
      go_enter Try.func142, Try.ntmps142
      go_wp2_with (first | (go_at_call 153; refine (l02Bit_any _ _ (by omega)).mono ?_; rintro e w1 ⟨rfl, rfl⟩) | (go_at_call 154; refine (l01Digit_yes _ (by omega) (by omega) _).mono ?_; rintro e w1 ⟨rfl, rfl⟩) | (go_at_call 154; refine (l01Digit_no _ (by omega) _).mono ?_; rintro e w1 ⟨rfl, rfl⟩))
      go_ret
      exact ⟨ret_int HC.out.symm, rfl⟩

/-- The code of a character, 0 if it is none. -/
def codeO (n : Nat) : Int := if 0 ≤ codeV n then codeV n else 0
def isCh (n : Nat) : Bool := decide (0 ≤ codeV n)

set_option maxHeartbeats 8000000 in
theorem CodeOf_any (n : Nat) (h : n ≤ 255) (w : World) :
    Calls Try.prog 161 #[.int .u8 n] w fun e w' => e = .returned (.tuple #[.int .i64 (codeO n), .bool (isCh n)]) ∧ w = w' := by
  rcases char_cases n h with hc | hc | hc | hc | hc | hc
  · rcases hc with rfl | rfl | rfl | rfl
    all_goals
      clear h
      go_enter Try.func161, Try.ntmps161
      go_wp2_with (first | (go_at_call 129; refine (bitOf_any _ _ (by omega)).mono ?_; rintro e w1 ⟨rfl, rfl⟩) | (go_at_call 165; refine (isDigit_yes _ (by omega) (by omega) _).mono ?_; rintro e w1 ⟨rfl, rfl⟩) | (go_at_call 165; refine (isDigit_no _ (by omega) _).mono ?_; rintro e w1 ⟨rfl, rfl⟩))
      go_ret2
      exact ⟨ret_ib (by decide +kernel) (by decide +kernel), rfl⟩
  · rcases range_48 hc with rfl | rfl | rfl | rfl | rfl | rfl | rfl | rfl | rfl | rfl
    all_goals
      clear h
      go_enter Try.func161, Try.ntmps161
      go_wp2_with (first | (go_at_call 129; refine (bitOf_any _ _ (by omega)).mono ?_; rintro e w1 ⟨rfl, rfl⟩) | (go_at_call 165; refine (isDigit_yes _ (by omega) (by omega) _).mono ?_; rintro e w1 ⟨rfl, rfl⟩) | (go_at_call 165; refine (isDigit_no _ (by omega) _).mono ?_; rintro e w1 ⟨rfl, rfl⟩))
      go_ret2
      exact ⟨ret_ib (by decide +kernel) (by decide +kernel), rfl⟩
  · rcases range_65 hc with rfl | rfl | rfl | rfl | rfl | rfl | rfl | rfl | rfl
    all_goals
      clear h
      go_enter Try.func161, Try.ntmps161
      go_wp2_with (first | (go_at_call 129; refine (bitOf_any _ _ (by omega)).mono ?_; rintro e w1 ⟨rfl, rfl⟩) | (go_at_call 165; refine (isDigit_yes _ (by omega) (by omega) _).mono ?_; rintro e w1 ⟨rfl, rfl⟩) | (go_at_call 165; refine (isDigit_no _ (by omega) _).mono ?_; rintro e w1 ⟨rfl, rfl⟩))
      go_ret2
      exact ⟨ret_ib (by decide +kernel) (by decide +kernel), rfl⟩
  · rcases range_74 hc with rfl | rfl | rfl | rfl | rfl | rfl | rfl | rfl | rfl
    all_goals
      clear h
      go_enter Try.func161, Try.ntmps161
      go_wp2_with (first | (go_at_call 129; refine (bitOf_any _ _ (by omega)).mono ?_; rintro e w1 ⟨rfl, rfl⟩) | (go_at_call 165; refine (isDigit_yes _ (by omega) (by omega) _).mono ?_; rintro e w1 ⟨rfl, rfl⟩) | (go_at_call 165; refine (isDigit_no _ (by omega) _).mono ?_; rintro e w1 ⟨rfl, rfl⟩))
      go_ret2
      exact ⟨ret_ib (by decide +kernel) (by decide +kernel), rfl⟩
  · rcases range_83 hc with rfl | rfl | rfl | rfl | rfl | rfl | rfl | rfl
    all_goals
      clear h
      go_enter Try.func161, Try.ntmps161
      go_wp2_with (first | (go_at_call 129; refine (bitOf_any _ _ (by omega)).mono ?_; rintro e w1 ⟨rfl, rfl⟩) | (go_at_call 165; refine (isDigit_yes _ (by omega) (by omega) _).mono ?_; rintro e w1 ⟨rfl, rfl⟩) | (go_at_call 165; refine (isDigit_no _ (by omega) _).mono ?_; rintro e w1 ⟨rfl, rfl⟩))
      go_ret2
      exact ⟨ret_ib (by decide +kernel) (by decide +kernel), rfl⟩
  · have HC := Lib.hid (codeV_none hc)
    obtain ⟨h1, h2, h3, h4, h5, h6⟩ := hc
    have i1 : ¬ (n : Int) = 32 := by omega
    have i2 : ¬ (n : Int) = 38 := by omega
    have i3 : ¬ (n : Int) = 45 := by omega
    have i4 : ¬ (n : Int) = 47 := by omega
    have i5 : (n : Int) < 48 ∨ 57 < (n : Int) := by omega
    rcases h6 with h6 | h6
    · have j1 : ¬ (65 : Int) ≤ (n : Int) := by omega
      have j2 : ¬ (74 : Int) ≤ (n : Int) := by omega
      have j3 : ¬ (83 : Int) ≤ (n : Int) := by omega
      clear h1 h2 h3 h4 h5 h6
      go_enter Try.func161, Try.ntmps161
      go_wp2_with (first | (go_at_call 129; refine (bitOf_any _ _ (by omega)).mono ?_; rintro e w1 ⟨rfl, rfl⟩) | (go_at_call 165; refine (isDigit_yes _ (by omega) (by omega) _).mono ?_; rintro e w1 ⟨rfl, rfl⟩) | (go_at_call 165; refine (isDigit_no _ (by omega) _).mono ?_; rintro e w1 ⟨rfl, rfl⟩))
      go_ret2
      exact ⟨ret_ib (by unfold codeO; rw [HC.out]; rfl) (by unfold isCh; rw [HC.out]; rfl), rfl⟩
    · have j1 : ¬ (n : Int) ≤ 73 := by omega
      have j2 : ¬ (n : Int) ≤ 82 := by omega
      have j3 : ¬ (n : Int) ≤ 90 := by omega
      have j4 : (65 : Int) ≤ (n : Int) := by omega
      have j5 : (74 : Int) ≤ (n : Int) := by omega
      have j6 : (83 : Int) ≤ (n : Int) := by omega
      clear h1 h2 h3 h4 h5 h6
      go_enter Try.func161, Try.ntmps161
      go_wp2_with (first | (go_at_call 129; refine (bitOf_any _ _ (by omega)).mono ?_; rintro e w1 ⟨rfl, rfl⟩) | (go_at_call 165; refine (isDigit_yes _ (by omega) (by omega) _).mono ?_; rintro e w1 ⟨rfl, rfl⟩) | (go_at_call 165; refine (isDigit_no _ (by omega) _).mono ?_; rintro e w1 ⟨rfl, rfl⟩))
      go_ret2
      exact ⟨ret_ib (by unfold codeO; rw [HC.out]; rfl) (by unfold isCh; rw [HC.out]; rfl), rfl⟩

theorem codeOf_any (n : Nat) (h : n ≤ 255) (w : World) :
    Calls Try.prog 156 #[.int .u8 n] w fun e w' => e = .returned (.int .i64 (codeO n)) ∧ w = w' := by
  go_enter Try.func156, Try.ntmps156
  go_wp2_with fail
  refine (CodeOf_any n h _).mono ?_; rintro e w1 ⟨rfl, rfl⟩
  go_wp2
  go_ret
  exact ⟨rfl, rfl⟩
end Go.Proofs.Yteeaeomkpecflaa
