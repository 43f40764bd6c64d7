/- The operations on bits at small int64. No program in sight. The count of holes; in the program and in the reference. The holes of characters, and the count of holes; in the program and in the reference. The nearest character of a column; in the program and in the reference. -/
import Derived.Test.YtkmejkeanmjfbaaGreatDoorKd1
import Derived.Test.YtkmejkeanmjfbaaGreatDoorKd2
/-! ### CodeAll -/
/-! ### The operations on bits at small int64. No program in sight. -/
namespace Go.Proofs.YtkmejkeanmjfbaaGreatDoor
open Go.RowKit

theorem wrap_i64_small (n : Nat) (h : n < 4611686018427387904) : IntKind.i64.wrap (n : Int) = n := by
  simp [IntKind.wrap, IntKind.bits, IntKind.signed]
  omega
theorem ofInt_64 (a : Nat) (ha : a < 4611686018427387904) : (BitVec.ofInt 64 (a : Int)).toNat = a := by
  rw [BitVec.ofInt_natCast, BitVec.toNat_ofNat]; exact Nat.mod_eq_of_lt (by omega)
theorem i64_xor_nat (a b : Nat) (ha : a < 4611686018427387904) (hb : b < 4611686018427387904) : bits .xor .i64 (a : Int) (b : Int) = ((a ^^^ b : Nat) : Int) := by
  have hx : a ^^^ b < 2 ^ 62 := Nat.xor_lt_two_pow (by omega) (by omega)
  show IntKind.i64.wrap ((BitVec.ofInt 64 (a : Int) ^^^ BitVec.ofInt 64 (b : Int)).toNat : Int) = _
  rw [BitVec.toNat_xor, ofInt_64 a ha, ofInt_64 b hb, wrap_i64_small _ (by omega)]
theorem i64_or_nat (a b : Nat) (ha : a < 4611686018427387904) (hb : b < 4611686018427387904) : bits .or .i64 (a : Int) (b : Int) = ((a ||| b : Nat) : Int) := by
  have hx : a ||| b < 2 ^ 62 := Nat.or_lt_two_pow (by omega) (by omega)
  show IntKind.i64.wrap ((BitVec.ofInt 64 (a : Int) ||| BitVec.ofInt 64 (b : Int)).toNat : Int) = _
  rw [BitVec.toNat_or, ofInt_64 a ha, ofInt_64 b hb, wrap_i64_small _ (by omega)]
theorem i64_and_nat (a b : Nat) (ha : a < 4611686018427387904) (hb : b < 4611686018427387904) : bits .and .i64 (a : Int) (b : Int) = ((a &&& b : Nat) : Int) := by
  have hx : a &&& b < 2 ^ 62 := Nat.and_lt_two_pow _ (by omega)
  show IntKind.i64.wrap ((BitVec.ofInt 64 (a : Int) &&& BitVec.ofInt 64 (b : Int)).toNat : Int) = _
  rw [BitVec.toNat_and, ofInt_64 a ha, ofInt_64 b hb, wrap_i64_small _ (by omega)]

/-- Twelve bits stay twelve bits. -/
theorem xor12 {a b : Int} (h0 : 0 ≤ a) (h1 : a ≤ 4095) (h2 : 0 ≤ b) (h3 : b ≤ 4095) : bits .xor .i64 a b = ((a.toNat ^^^ b.toNat : Nat) : Int) ∧ a.toNat ^^^ b.toNat ≤ 4095 := by
  obtain ⟨m, rfl⟩ := Int.eq_ofNat_of_zero_le h0
  obtain ⟨n, rfl⟩ := Int.eq_ofNat_of_zero_le h2
  have hx : m ^^^ n < 2 ^ 12 := Nat.xor_lt_two_pow (by omega) (by omega)
  exact ⟨by simpa using i64_xor_nat m n (by omega) (by omega), by simp; omega⟩
theorem xor12_range {a b : Int} (h0 : 0 ≤ a) (h1 : a ≤ 4095) (h2 : 0 ≤ b) (h3 : b ≤ 4095) : 0 ≤ bits .xor .i64 a b ∧ bits .xor .i64 a b ≤ 4095 := by
  have h := xor12 h0 h1 h2 h3
  rw [h.1]
  omega
theorem xor12_comm {a b : Int} (h0 : 0 ≤ a) (h1 : a ≤ 4095) (h2 : 0 ≤ b) (h3 : b ≤ 4095) : bits .xor .i64 a b = bits .xor .i64 b a := by
  rw [(xor12 h0 h1 h2 h3).1, (xor12 h2 h3 h0 h1).1, Nat.xor_comm]
theorem xor12_self {a : Int} (h0 : 0 ≤ a) (h1 : a ≤ 4095) : bits .xor .i64 a a = 0 := by
  rw [(xor12 h0 h1 h0 h1).1, Nat.xor_self]
  rfl
theorem xor12_zero {a b : Int} (h0 : 0 ≤ a) (h1 : a ≤ 4095) (h2 : 0 ≤ b) (h3 : b ≤ 4095) (h : bits .xor .i64 a b = 0) : a = b := by
  rw [(xor12 h0 h1 h2 h3).1] at h
  have h' : a.toNat ^^^ b.toNat = 0 := by omega
  have e : a.toNat ^^^ (a.toNat ^^^ b.toNat) = b.toNat := by rw [← Nat.xor_assoc, Nat.xor_self, Nat.zero_xor]
  rw [h', Nat.xor_zero] at e
  omega
end Go.Proofs.YtkmejkeanmjfbaaGreatDoor

/-! ### The count of holes; in the program and in the reference. -/
namespace Go.Proofs.YtkmejkeanmjfbaaGreatDoor
open Go.RowKit

def onesA (n : Int) : Int := IntKind.u64.wrap (bits BinOp.and IntKind.u64 (n / 2) 6148914691236517205 + bits BinOp.and IntKind.u64 n 6148914691236517205)
def onesB (a : Int) : Int := IntKind.u64.wrap (bits BinOp.and IntKind.u64 (a / 4) 3689348814741910323 + bits BinOp.and IntKind.u64 a 3689348814741910323)
def onesC (b : Int) : Int := bits BinOp.and IntKind.u64 (IntKind.u64.wrap (b / 16 + b)) 1085102592571150095
def onesD (c : Int) : Int := IntKind.u64.wrap (c + c / 256)
def onesE (d : Int) : Int := IntKind.u64.wrap (d + d / 65536)
def onesF (e : Int) : Int := IntKind.u64.wrap (e + e / 4294967296)
def onesG (f : Int) : Int := bits BinOp.and IntKind.i64 (wrap64 f) 127
def onesZ (n : Int) : Int := onesG (onesF (onesE (onesD (onesC (onesB (onesA n))))))

/-- The number of the bits of a number. -/
def popN : Nat → Nat → Nat
  | 0, _ => 0
  | f + 1, n => if n = 0 then 0 else n % 2 + popN f (n / 2)
def pop (n : Nat) : Nat := popN 13 n
theorem onesZ_fin : ∀ a b : Fin 64, onesZ ((64 * a.val + b.val : Nat) : Int) = ((pop (64 * a.val + b.val) : Nat) : Int) := by decide +kernel
theorem onesZ_all (n : Nat) (h : n ≤ 4095) : onesZ (n : Int) = (pop n : Int) := by
  have := onesZ_fin ⟨n / 64, by omega⟩ ⟨n % 64, by omega⟩
  simp only [Nat.div_add_mod] at this
  exact this

theorem popN_lt (f : Nat) : ∀ n, n < 2 ^ f → popN f n ≤ f := by
  induction f with
  | zero => intro n _; simp [popN]
  | succ f ih =>
    intro n h
    simp only [popN]
    split
    · omega
    · have := ih (n / 2) (by rw [Nat.pow_succ] at h; omega)
      omega
theorem pop_le (n : Nat) (h : n ≤ 4095) : pop n ≤ 13 := popN_lt 13 n (by omega)
theorem popN_more (f : Nat) : ∀ n, n < 2 ^ f → popN (f + 1) n = popN f n := by
  induction f with
  | zero => intro n h; have : n = 0 := by simp at h; exact h
            subst this; simp [popN]
  | succ f ih =>
    intro n h
    rw [popN]
    conv => rhs; rw [popN]
    split
    · rfl
    · rw [ih (n / 2) (by rw [Nat.pow_succ] at h; omega)]

/-- The number of holes of a column's number; the number of places in which two columns differ. -/
def popI (v : Int) : Int := (pop v.toNat : Int)
def diffI (a b : Int) : Int := popI (bits .xor .i64 a b)
theorem popI_range {v : Int} (h0 : 0 ≤ v) (h1 : v ≤ 4095) : 0 ≤ popI v ∧ popI v ≤ 12 := by
  have h := popN_lt 12 v.toNat (by omega)
  have h2 : popN 13 v.toNat = popN 12 v.toNat := popN_more 12 v.toNat (by omega)
  unfold popI pop
  omega
theorem diffI_range {a b : Int} (h0 : 0 ≤ a) (h1 : a ≤ 4095) (h2 : 0 ≤ b) (h3 : b ≤ 4095) : 0 ≤ diffI a b ∧ diffI a b ≤ 12 := by
  have := xor12_range h0 h1 h2 h3
  exact popI_range this.1 this.2
theorem diffI_comm {a b : Int} (h0 : 0 ≤ a) (h1 : a ≤ 4095) (h2 : 0 ≤ b) (h3 : b ≤ 4095) : diffI a b = diffI b a := by
  unfold diffI
  rw [xor12_comm h0 h1 h2 h3]
theorem popN_zero (f : Nat) : ∀ n, n < 2 ^ f → popN f n = 0 → n = 0 := by
  induction f with
  | zero => intro n h _; simp at h; exact h
  | succ f ih =>
    intro n h h0
    simp only [popN] at h0
    split at h0
    · assumption
    · have := ih (n / 2) (by rw [Nat.pow_succ] at h; omega) (by omega)
      omega
theorem diffI_zero {a b : Int} (h0 : 0 ≤ a) (h1 : a ≤ 4095) (h2 : 0 ≤ b) (h3 : b ≤ 4095) : diffI a b = 0 ↔ a = b := by
  constructor
  · intro h
    have hr := xor12_range h0 h1 h2 h3
    have := popN_zero 13 (bits .xor .i64 a b).toNat (by omega) (by unfold diffI popI pop at h; omega)
    exact xor12_zero h0 h1 h2 h3 (by omega)
  · rintro rfl
    unfold diffI
    rw [xor12_self h0 h1]
    rfl
end Go.Proofs.YtkmejkeanmjfbaaGreatDoor

/-! ### The holes of characters, and the count of holes; in the program and in the reference. -/
namespace Go.Proofs.YtkmejkeanmjfbaaGreatDoor
open Go.RowKit

def bitV (r : Int) : Int := if r = 12 then 1 else if r = 11 then 2 else if insideB r 0 9 = true then 4 * 2 ^ r.toNat else 0

theorem ten_cases {r : Int} (h0 : 0 ≤ r) (h1 : r ≤ 9) : r = 0 ∨ r = 1 ∨ r = 2 ∨ r = 3 ∨ r = 4 ∨ r = 5 ∨ r = 6 ∨ r = 7 ∨ r = 8 ∨ r = 9 := by omega

theorem bitOf_any (r : Int) (w : World) (h : (0 ≤ r ∧ r ≤ 9) ∨ r = 11 ∨ r = 12) :
    Calls Tryz.prog 67 #[.int .i64 r] w fun e w' => e = .returned (.int .i64 (bitV r)) ∧ w = w' := by
  rcases h with ⟨h0, h1⟩ | rfl | rfl
  · rcases ten_cases h0 h1 with rfl | rfl | rfl | rfl | rfl | rfl | rfl | rfl | rfl | rfl
    all_goals
      go_enter Tryz.func67, Tryz.ntmps67
      go_wp2_with fail
      refine (inside_any _ _ _ _).mono ?_; rintro e w1 ⟨rfl, rfl⟩
      go_wp2
      go_ret
      exact ⟨ret_int (by decide +kernel), rfl⟩
  · go_enter Tryz.func67, Tryz.ntmps67
    go_wp2
    go_ret
    exact ⟨ret_int (by decide +kernel), rfl⟩
  · go_enter Tryz.func67, Tryz.ntmps67
    go_wp2
    go_ret
    exact ⟨ret_int (by decide +kernel), rfl⟩

theorem l02Bit_any (r : Int) (w : World) (h : (0 ≤ r ∧ r ≤ 9) ∨ r = 11 ∨ r = 12) :
    Calls Tryz.prog 86 #[.int .i64 r] w fun e w' => e = .returned (.int .i64 (bitV r)) ∧ w = w' := by
  rcases h with ⟨h0, h1⟩ | rfl | rfl
  · rcases ten_cases h0 h1 with rfl | rfl | rfl | rfl | rfl | rfl | rfl | rfl | rfl | rfl
    all_goals
      go_enter Tryz.func86, Tryz.ntmps86
      go_wp2_with fail
      refine (l00In_any _ _ _ _).mono ?_; rintro e w1 ⟨rfl, rfl⟩
      go_wp2
      go_ret
      exact ⟨ret_int (by decide +kernel), rfl⟩
  · go_enter Tryz.func86, Tryz.ntmps86
    go_wp2
    go_ret
    exact ⟨ret_int (by decide +kernel), rfl⟩
  · go_enter Tryz.func86, Tryz.ntmps86
    go_wp2
    go_ret
    exact ⟨ret_int (by decide +kernel), rfl⟩

/-- The number of the holes of a character; -1 if there is none. -/
def codeV (n : Nat) : Int :=
  if n = 32 then 0 else if n = 38 then 1 else if n = 45 then 2 else if n = 47 then 12
  else if 48 ≤ n ∧ n ≤ 57 then 4 * 2 ^ (n - 48)
  else if 65 ≤ n ∧ n ≤ 73 then 1 + 4 * 2 ^ (n - 64)
  else if 74 ≤ n ∧ n ≤ 82 then 2 + 4 * 2 ^ (n - 73)
  else if 83 ≤ n ∧ n ≤ 90 then 4 + 4 * 2 ^ (n - 81)
  else -1
/-- All characters in the order of their ranks. -/
def charL : List UInt8 := [32, 38, 65, 66, 67, 68, 69, 70, 71, 72, 73, 45, 74, 75, 76, 77, 78, 79, 80, 81, 82, 47, 83, 84, 85, 86, 87, 88, 89, 90, 48, 49, 50, 51, 52, 53, 54, 55, 56, 57]
theorem char_cases (n : Nat) (h : n ≤ 255) : (n = 32 ∨ n = 38 ∨ n = 45 ∨ n = 47) ∨ (48 ≤ n ∧ n ≤ 57) ∨ (65 ≤ n ∧ n ≤ 73) ∨ (74 ≤ n ∧ n ≤ 82) ∨ (83 ≤ n ∧ n ≤ 90) ∨
    (n ≠ 32 ∧ n ≠ 38 ∧ n ≠ 45 ∧ n ≠ 47 ∧ (n < 48 ∨ 57 < n) ∧ (n < 65 ∨ 90 < n)) := by omega
theorem ret_ib {a b : Int} {p q : Bool} (h : a = b) (k : p = q) : Ending.returned (.tuple #[.int .i64 a, .bool p]) = .returned (.tuple #[.int .i64 b, .bool q]) := by rw [h, k]
theorem codeV_none {n : Nat} (h : n ≠ 32 ∧ n ≠ 38 ∧ n ≠ 45 ∧ n ≠ 47 ∧ (n < 48 ∨ 57 < n) ∧ (n < 65 ∨ 90 < n)) : codeV n = -1 := by
  obtain ⟨h1, h2, h3, h4, h5, h6⟩ := h
  unfold codeV
  rw [if_neg h1, if_neg h2, if_neg h3, if_neg h4, if_neg (by omega), if_neg (by omega), if_neg (by omega), if_neg (by omega)]

theorem range_48 {n : Nat} (h : 48 ≤ n ∧ n ≤ 57) : n = 48 ∨ n = 49 ∨ n = 50 ∨ n = 51 ∨ n = 52 ∨ n = 53 ∨ n = 54 ∨ n = 55 ∨ n = 56 ∨ n = 57 := by omega
theorem range_65 {n : Nat} (h : 65 ≤ n ∧ n ≤ 73) : n = 65 ∨ n = 66 ∨ n = 67 ∨ n = 68 ∨ n = 69 ∨ n = 70 ∨ n = 71 ∨ n = 72 ∨ n = 73 := by omega
theorem range_74 {n : Nat} (h : 74 ≤ n ∧ n ≤ 82) : n = 74 ∨ n = 75 ∨ n = 76 ∨ n = 77 ∨ n = 78 ∨ n = 79 ∨ n = 80 ∨ n = 81 ∨ n = 82 := by omega
theorem range_83 {n : Nat} (h : 83 ≤ n ∧ n ≤ 90) : n = 83 ∨ n = 84 ∨ n = 85 ∨ n = 86 ∨ n = 87 ∨ n = 88 ∨ n = 89 ∨ n = 90 := by omega
def digB (n : Int) : Bool := decide (48 ≤ n) && decide (n ≤ 57)
theorem isDigit_any (n : Int) (w : World) :
    Calls Tryz.prog 68 #[.int .u8 n] w fun e w' => e = .returned (.bool (digB n)) ∧ w = w' := by
  by_cases h1 : (48 : Int) ≤ n <;> by_cases h2 : n ≤ 57
  all_goals
    go_enter Tryz.func68, Tryz.ntmps68
    go_wp2
    go_ret
    exact ⟨ret_bool (by simp [digB, *]), rfl⟩
theorem isDigit_yes (n : Int) (h1 : 48 ≤ n) (h2 : n ≤ 57) (w : World) : Calls Tryz.prog 68 #[.int .u8 n] w fun e w' => e = .returned (.bool true) ∧ w = w' := by
  have := isDigit_any n w
  rwa [show digB n = true by simp [digB, *]] at this
theorem isDigit_no (n : Int) (h1 : n < 48 ∨ 57 < n) (w : World) : Calls Tryz.prog 68 #[.int .u8 n] w fun e w' => e = .returned (.bool false) ∧ w = w' := by
  have := isDigit_any n w
  rwa [show digB n = false by simp only [digB, Bool.and_eq_false_iff, decide_eq_false_iff_not]; omega] at this
theorem l01Digit_any (n : Int) (w : World) :
    Calls Tryz.prog 77 #[.int .u8 n] w fun e w' => e = .returned (.bool (digB n)) ∧ w = w' := by
  by_cases h1 : (48 : Int) ≤ n <;> by_cases h2 : n ≤ 57
  all_goals
    go_enter Tryz.func77, Tryz.ntmps77
    go_wp2
    go_ret
    exact ⟨ret_bool (by simp [digB, *]), rfl⟩
theorem l01Digit_yes (n : Int) (h1 : 48 ≤ n) (h2 : n ≤ 57) (w : World) : Calls Tryz.prog 77 #[.int .u8 n] w fun e w' => e = .returned (.bool true) ∧ w = w' := by
  have := l01Digit_any n w
  rwa [show digB n = true by simp [digB, *]] at this
theorem l01Digit_no (n : Int) (h1 : n < 48 ∨ 57 < n) (w : World) : Calls Tryz.prog 77 #[.int .u8 n] w fun e w' => e = .returned (.bool false) ∧ w = w' := by
  have := l01Digit_any n w
  rwa [show digB n = false by simp only [digB, Bool.and_eq_false_iff, decide_eq_false_iff_not]; omega] at this

set_option maxHeartbeats 8000000 in
theorem l03Code_any (n : Nat) (h : n ≤ 255) (w : World) :
    Calls Tryz.prog 50 #[.int .u8 n] w fun e w' => e = .returned (.int .i64 (codeV n)) ∧ w = w' := by
  rcases char_cases n h with hc | hc | hc | hc | hc | hc
  · rcases hc with rfl | rfl | rfl | rfl
    all_goals
      clear h
      go_enter Tryz.func50, Tryz.ntmps50
      go_wp2_with (first | (go_at_call 86; refine (l02Bit_any _ _ (by omega)).mono ?_; rintro e w1 ⟨rfl, rfl⟩) | (go_at_call 77; refine (l01Digit_yes _ (by omega) (by omega) _).mono ?_; rintro e w1 ⟨rfl, rfl⟩) | (go_at_call 77; refine (l01Digit_no _ (by omega) _).mono ?_; rintro e w1 ⟨rfl, rfl⟩))
      go_ret
      exact ⟨ret_int (by decide +kernel), rfl⟩
  · rcases range_48 hc with rfl | rfl | rfl | rfl | rfl | rfl | rfl | rfl | rfl | rfl
    all_goals
      clear h
      go_enter Tryz.func50, Tryz.ntmps50
      go_wp2_with (first | (go_at_call 86; refine (l02Bit_any _ _ (by omega)).mono ?_; rintro e w1 ⟨rfl, rfl⟩) | (go_at_call 77; refine (l01Digit_yes _ (by omega) (by omega) _).mono ?_; rintro e w1 ⟨rfl, rfl⟩) | (go_at_call 77; refine (l01Digit_no _ (by omega) _).mono ?_; rintro e w1 ⟨rfl, rfl⟩))
      go_ret
      exact ⟨ret_int (by decide +kernel), rfl⟩
  · rcases range_65 hc with rfl | rfl | rfl | rfl | rfl | rfl | rfl | rfl | rfl
    all_goals
      clear h
      go_enter Tryz.func50, Tryz.ntmps50
      go_wp2_with (first | (go_at_call 86; refine (l02Bit_any _ _ (by omega)).mono ?_; rintro e w1 ⟨rfl, rfl⟩) | (go_at_call 77; refine (l01Digit_yes _ (by omega) (by omega) _).mono ?_; rintro e w1 ⟨rfl, rfl⟩) | (go_at_call 77; refine (l01Digit_no _ (by omega) _).mono ?_; rintro e w1 ⟨rfl, rfl⟩))
      go_ret
      exact ⟨ret_int (by decide +kernel), rfl⟩
  · rcases range_74 hc with rfl | rfl | rfl | rfl | rfl | rfl | rfl | rfl | rfl
    all_goals
      clear h
      go_enter Tryz.func50, Tryz.ntmps50
      go_wp2_with (first | (go_at_call 86; refine (l02Bit_any _ _ (by omega)).mono ?_; rintro e w1 ⟨rfl, rfl⟩) | (go_at_call 77; refine (l01Digit_yes _ (by omega) (by omega) _).mono ?_; rintro e w1 ⟨rfl, rfl⟩) | (go_at_call 77; refine (l01Digit_no _ (by omega) _).mono ?_; rintro e w1 ⟨rfl, rfl⟩))
      go_ret
      exact ⟨ret_int (by decide +kernel), rfl⟩
  · rcases range_83 hc with rfl | rfl | rfl | rfl | rfl | rfl | rfl | rfl
    all_goals
      clear h
      go_enter Tryz.func50, Tryz.ntmps50
      go_wp2_with (first | (go_at_call 86; refine (l02Bit_any _ _ (by omega)).mono ?_; rintro e w1 ⟨rfl, rfl⟩) | (go_at_call 77; refine (l01Digit_yes _ (by omega) (by omega) _).mono ?_; rintro e w1 ⟨rfl, rfl⟩) | (go_at_call 77; refine (l01Digit_no _ (by omega) _).mono ?_; rintro e w1 ⟨rfl, rfl⟩))
      go_ret
      exact ⟨ret_int (by decide +kernel), rfl⟩
  · have HC := Lib.hid (codeV_none hc)
    obtain ⟨h1, h2, h3, h4, h5, h6⟩ := hc
    have i1 : ¬ (n : Int) = 32 := by omega
    have i2 : ¬ (n : Int) = 38 := by omega
    have i3 : ¬ (n : Int) = 45 := by omega
    have i4 : ¬ (n : Int) = 47 := by omega
    have i5 : (n : Int) < 48 ∨ 57 < (n : Int) := by omega
    rcases h6 with h6 | h6
    · have j1 : ¬ (65 : Int) ≤ (n : Int) := by omega
      have j2 : ¬ (74 : Int) ≤ (n : Int) := by omega
      have j3 : ¬ (83 : Int) ≤ (n : Int) := by omega
      clear h1 h2 h3 h4 h5 h6
      go_enter Tryz.func50, Tryz.ntmps50
      go_wp2_with (first | (go_at_call 86; refine (l02Bit_any _ _ (by omega)).mono ?_; rintro e w1 ⟨rfl, rfl⟩) | (go_at_call 77; refine (l01Digit_yes _ (by omega) (by omega) _).mono ?_; rintro e w1 ⟨rfl, rfl⟩) | (go_at_call 77; refine (l01Digit_no _ (by omega) _).mono ?_; rintro e w1 ⟨rfl, rfl⟩))
      go_ret
      exact ⟨ret_int HC.out.symm, rfl⟩
    · have j1 : ¬ (n : Int) ≤ 73 := by omega
      have j2 : ¬ (n : Int) ≤ 82 := by omega
      have j3 : ¬ (n : Int) ≤ 90 := by omega
      have j4 : (65 : Int) ≤ (n : Int) := by omega
      have j5 : (74 : Int) ≤ (n : Int) := by omega
      have j6 : (83 : Int) ≤ (n : Int) := by omega
      clear h1 h2 h3 h4 h5 h6
      go_enter Tryz.func50, Tryz.ntmps50
      go_wp2_with (first | (go_at_call 86; refine (l02Bit_any _ _ (by omega)).mono ?_; rintro e w1 ⟨rfl, rfl⟩) | (go_at_call 77; refine (l01Digit_yes _ (by omega) (by omega) _).mono ?_; rintro e w1 ⟨rfl, rfl⟩) | (go_at_call 77; refine (l01Digit_no _ (by omega) _).mono ?_; rintro e w1 ⟨rfl, rfl⟩))
      go_ret
      exact ⟨ret_int HC.out.symm, rfl⟩

/-- The code of a character, 0 if it is none. -/
def codeO (n : Nat) : Int := if 0 ≤ codeV n then codeV n else 0
def isCh (n : Nat) : Bool := decide (0 ≤ codeV n)

set_option maxHeartbeats 8000000 in
theorem CodeOf_any (n : Nat) (h : n ≤ 255) (w : World) :
    Calls Tryz.prog 23 #[.int .u8 n] w fun e w' => e = .returned (.tuple #[.int .i64 (codeO n), .bool (isCh n)]) ∧ w = w' := by
  rcases char_cases n h with hc | hc | hc | hc | hc | hc
  · rcases hc with rfl | rfl | rfl | rfl
    all_goals
      clear h
      go_enter Tryz.func23, Tryz.ntmps23
      go_wp2_with (first | (go_at_call 67; refine (bitOf_any _ _ (by omega)).mono ?_; rintro e w1 ⟨rfl, rfl⟩) | (go_at_call 68; refine (isDigit_yes _ (by omega) (by omega) _).mono ?_; rintro e w1 ⟨rfl, rfl⟩) | (go_at_call 68; refine (isDigit_no _ (by omega) _).mono ?_; rintro e w1 ⟨rfl, rfl⟩))
      go_ret2
      exact ⟨ret_ib (by decide +kernel) (by decide +kernel), rfl⟩
  · rcases range_48 hc with rfl | rfl | rfl | rfl | rfl | rfl | rfl | rfl | rfl | rfl
    all_goals
      clear h
      go_enter Tryz.func23, Tryz.ntmps23
      go_wp2_with (first | (go_at_call 67; refine (bitOf_any _ _ (by omega)).mono ?_; rintro e w1 ⟨rfl, rfl⟩) | (go_at_call 68; refine (isDigit_yes _ (by omega) (by omega) _).mono ?_; rintro e w1 ⟨rfl, rfl⟩) | (go_at_call 68; refine (isDigit_no _ (by omega) _).mono ?_; rintro e w1 ⟨rfl, rfl⟩))
      go_ret2
      exact ⟨ret_ib (by decide +kernel) (by decide +kernel), rfl⟩
  · rcases range_65 hc with rfl | rfl | rfl | rfl | rfl | rfl | rfl | rfl | rfl
    all_goals
      clear h
      go_enter Tryz.func23, Tryz.ntmps23
      go_wp2_with (first | (go_at_call 67; refine (bitOf_any _ _ (by omega)).mono ?_; rintro e w1 ⟨rfl, rfl⟩) | (go_at_call 68; refine (isDigit_yes _ (by omega) (by omega) _).mono ?_; rintro e w1 ⟨rfl, rfl⟩) | (go_at_call 68; refine (isDigit_no _ (by omega) _).mono ?_; rintro e w1 ⟨rfl, rfl⟩))
      go_ret2
      exact ⟨ret_ib (by decide +kernel) (by decide +kernel), rfl⟩
  · rcases range_74 hc with rfl | rfl | rfl | rfl | rfl | rfl | rfl | rfl | rfl
    all_goals
      clear h
      go_enter Tryz.func23, Tryz.ntmps23
      go_wp2_with (first | (go_at_call 67; refine (bitOf_any _ _ (by omega)).mono ?_; rintro e w1 ⟨rfl, rfl⟩) | (go_at_call 68; refine (isDigit_yes _ (by omega) (by omega) _).mono ?_; rintro e w1 ⟨rfl, rfl⟩) | (go_at_call 68; refine (isDigit_no _ (by omega) _).mono ?_; rintro e w1 ⟨rfl, rfl⟩))
      go_ret2
      exact ⟨ret_ib (by decide +kernel) (by decide +kernel), rfl⟩
  · rcases range_83 hc with rfl | rfl | rfl | rfl | rfl | rfl | rfl | rfl
    all_goals
      clear h
      go_enter Tryz.func23, Tryz.ntmps23
      go_wp2_with (first | (go_at_call 67; refine (bitOf_any _ _ (by omega)).mono ?_; rintro e w1 ⟨rfl, rfl⟩) | (go_at_call 68; refine (isDigit_yes _ (by omega) (by omega) _).mono ?_; rintro e w1 ⟨rfl, rfl⟩) | (go_at_call 68; refine (isDigit_no _ (by omega) _).mono ?_; rintro e w1 ⟨rfl, rfl⟩))
      go_ret2
      exact ⟨ret_ib (by decide +kernel) (by decide +kernel), rfl⟩
  · have HC := Lib.hid (codeV_none hc)
    obtain ⟨h1, h2, h3, h4, h5, h6⟩ := hc
    have i1 : ¬ (n : Int) = 32 := by omega
    have i2 : ¬ (n : Int) = 38 := by omega
    have i3 : ¬ (n : Int) = 45 := by omega
    have i4 : ¬ (n : Int) = 47 := by omega
    have i5 : (n : Int) < 48 ∨ 57 < (n : Int) := by omega
    rcases h6 with h6 | h6
    · have j1 : ¬ (65 : Int) ≤ (n : Int) := by omega
      have j2 : ¬ (74 : Int) ≤ (n : Int) := by omega
      have j3 : ¬ (83 : Int) ≤ (n : Int) := by omega
      clear h1 h2 h3 h4 h5 h6
      go_enter Tryz.func23, Tryz.ntmps23
      go_wp2_with (first | (go_at_call 67; refine (bitOf_any _ _ (by omega)).mono ?_; rintro e w1 ⟨rfl, rfl⟩) | (go_at_call 68; refine (isDigit_yes _ (by omega) (by omega) _).mono ?_; rintro e w1 ⟨rfl, rfl⟩) | (go_at_call 68; refine (isDigit_no _ (by omega) _).mono ?_; rintro e w1 ⟨rfl, rfl⟩))
      go_ret2
      exact ⟨ret_ib (by unfold codeO; rw [HC.out]; rfl) (by unfold isCh; rw [HC.out]; rfl), rfl⟩
    · have j1 : ¬ (n : Int) ≤ 73 := by omega
      have j2 : ¬ (n : Int) ≤ 82 := by omega
      have j3 : ¬ (n : Int) ≤ 90 := by omega
      have j4 : (65 : Int) ≤ (n : Int) := by omega
      have j5 : (74 : Int) ≤ (n : Int) := by omega
      have j6 : (83 : Int) ≤ (n : Int) := by omega
      clear h1 h2 h3 h4 h5 h6
      go_enter Tryz.func23, Tryz.ntmps23
      go_wp2_with (first | (go_at_call 67; refine (bitOf_any _ _ (by omega)).mono ?_; rintro e w1 ⟨rfl, rfl⟩) | (go_at_call 68; refine (isDigit_yes _ (by omega) (by omega) _).mono ?_; rintro e w1 ⟨rfl, rfl⟩) | (go_at_call 68; refine (isDigit_no _ (by omega) _).mono ?_; rintro e w1 ⟨rfl, rfl⟩))
      go_ret2
      exact ⟨ret_ib (by unfold codeO; rw [HC.out]; rfl) (by unfold isCh; rw [HC.out]; rfl), rfl⟩

theorem codeOf_any (n : Nat) (h : n ≤ 255) (w : World) :
    Calls Tryz.prog 47 #[.int .u8 n] w fun e w' => e = .returned (.int .i64 (codeO n)) ∧ w = w' := by
  go_enter Tryz.func47, Tryz.ntmps47
  go_wp2_with fail
  refine (CodeOf_any n h _).mono ?_; rintro e w1 ⟨rfl, rfl⟩
  go_wp2
  go_ret
  exact ⟨rfl, rfl⟩
end Go.Proofs.YtkmejkeanmjfbaaGreatDoor

/-! ### The nearest character of a column; in the program and in the reference. -/
namespace Go.Proofs.YtkmejkeanmjfbaaGreatDoor
open Go.RowKit

/-- One character is tried. -/
def nearStep (m : Int) (s : UInt8 × Int) (c : UInt8) : UInt8 × Int := if diffI m (codeV c.toNat) < s.2 then (c, diffI m (codeV c.toNat)) else s
def nearTo (m : Int) (k : Nat) : UInt8 × Int := (charL.take k).foldl (nearStep m) (0, 13)
theorem nearTo_succ (m : Int) (k : Nat) (h : k < 40) : nearTo m (k + 1) = nearStep m (nearTo m k) (charL[k]'h) := by
  unfold nearTo
  rw [List.take_succ_eq_append_getElem (show k < charL.length from h), List.foldl_append]
  rfl
theorem char_code (k : Nat) (h : k < 40) : 0 ≤ codeV (charL[k]'h).toNat ∧ codeV (charL[k]'h).toNat ≤ 4095 ∧ (charL[k]'h).toNat ≤ 255 ∧ codeO (charL[k]'h).toNat = codeV (charL[k]'h).toNat := by
  have : ∀ k : Fin 40, 0 ≤ codeV (charL[k.val]'k.isLt).toNat ∧ codeV (charL[k.val]'k.isLt).toNat ≤ 4095 ∧ (charL[k.val]'k.isLt).toNat ≤ 255 ∧ codeO (charL[k.val]'k.isLt).toNat = codeV (charL[k.val]'k.isLt).toNat := by decide +kernel
  exact this ⟨k, h⟩

abbrev charB : ByteArray := { data := #[32, 38, 65, 66, 67, 68, 69, 70, 71, 72, 73, 45, 74, 75, 76, 77, 78, 79, 80, 81, 82, 47, 83, 84, 85, 86, 87, 88, 89, 90, 48, 49, 50, 51, 52, 53, 54, 55, 56, 57] }
theorem charB_at (k : Nat) (h : k < 40) : charB[k]'(by exact h) = charL[k]'h := rfl
theorem codeOf_ch (k : Nat) (h : k < 40) (w : World) :
    Calls Tryz.prog 47 #[.int .u8 (charB[k]'(by exact h)).toNat] w fun e w' => e = .returned (.int .i64 (codeV (charL[k]'h).toNat)) ∧ w = w' := by
  have h1 := char_code k h
  rw [charB_at k h, ← h1.2.2.2]
  exact codeOf_any _ h1.2.2.1 w
theorem l03Code_ch (k : Nat) (h : k < 40) (w : World) :
    Calls Tryz.prog 50 #[.int .u8 (charB[k]'(by exact h)).toNat] w fun e w' => e = .returned (.int .i64 (codeV (charL[k]'h).toNat)) ∧ w = w' := by
  have h1 := char_code k h
  rw [charB_at k h]
  exact l03Code_any _ h1.2.2.1 w
theorem l03Order_any (w : World) : Calls Tryz.prog 101 #[] w fun e w' => e = .returned (.string charB) ∧ w = w' := by
  go_enter Tryz.func101, Tryz.ntmps101
  go_wp2
  go_ret
  exact ⟨rfl, rfl⟩
theorem ret_ci {a b : Int} {p q : Int} (h : a = b) (k : p = q) : Ending.returned (.tuple #[.int .u8 a, .int .i64 p]) = .returned (.tuple #[.int .u8 b, .int .i64 q]) := by rw [h, k]
theorem near_yes {m : Int} {k : Nat} (h : k < 40) (ht : diffI m (codeV (charL[k]'h).toNat) < (nearTo m k).2) : nearTo m (k + 1) = (charL[k]'h, diffI m (codeV (charL[k]'h).toNat)) := by
  rw [nearTo_succ m k h, nearStep, if_pos ht]
theorem near_no {m : Int} {k : Nat} (h : k < 40) (ht : ¬ diffI m (codeV (charL[k]'h).toNat) < (nearTo m k).2) : nearTo m (k + 1) = nearTo m k := by
  rw [nearTo_succ m k h, nearStep, if_neg ht]

theorem nearTo_one (m : Int) (h0 : 0 ≤ m) (h1 : m ≤ 4095) : nearTo m 1 = (32, diffI m (codeV 32)) := by
  have := diffI_range h0 h1 (char_code 0 (by omega)).1 (char_code 0 (by omega)).2.1
  exact near_yes (by omega) (by show diffI m (codeV (charL[0]).toNat) < 13; omega)

def repC (m : Int) : Int := if insideB m 0 4095 = true then 0 else 2
def repA (m : Int) : Int := if insideB m 0 4095 = true then ((nearTo m 40).1.toNat : Int) else 0
def repN (m : Int) : Int := if insideB m 0 4095 = true then (nearTo m 40).2 else 0
theorem ret_rep {a b c a' b' c' : Int} (h1 : a = a') (h2 : b = b') (h3 : c = c') : Ending.returned (.tuple #[.int .u8 a, .int .i64 b, .int .i64 c]) = .returned (.tuple #[.int .u8 a', .int .i64 b', .int .i64 c']) := by rw [h1, h2, h3]

end Go.Proofs.YtkmejkeanmjfbaaGreatDoor
