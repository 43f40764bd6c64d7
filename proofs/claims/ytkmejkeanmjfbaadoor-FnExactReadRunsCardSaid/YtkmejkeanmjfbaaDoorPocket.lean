/- The pockets of a column; in the program and in the reference. -/
import Derived.Test.YtkmejkeanmjfbaaDoorCodeAll
import Derived.Laws.BitsAllLaws
namespace Go.Proofs.YtkmejkeanmjfbaaDoor
open Go.RowKit

/-- Is there a hole in the row of a digit? -/
def dg (m d : Nat) : Bool := m / 2 ^ (d + 2) % 2 == 1
def digitFrom (m : Nat) : Nat → Int
  | 0 => if m = 4 then 0 else 12
  | d + 1 => if dg m (d + 1) = true then ((d + 1 : Nat) : Int) else digitFrom m d
def zoneP (m : Nat) : Int := if m % 2 = 1 then 11 else if m / 2 % 2 = 1 then 10 else if m / 4 % 2 = 1 ∧ 7 < m then 0 else if m ≠ 0 then 1 else 12
def pocketP (m : Nat) (mode : Int) : Int := if mode = 1 then digitFrom m 9 else zoneP m
def pocketI (v mode : Int) : Int := pocketP v.toNat mode
theorem digitFrom_range (m : Nat) (d : Nat) : 0 ≤ digitFrom m d ∧ (digitFrom m d ≤ d ∨ digitFrom m d = 12) := by
  induction d with
  | zero => unfold digitFrom; split <;> omega
  | succ d ih =>
    unfold digitFrom
    split
    · omega
    · omega
theorem zoneP_range (m : Nat) : zoneP m = 11 ∨ zoneP m = 10 ∨ zoneP m = 0 ∨ zoneP m = 1 ∨ zoneP m = 12 := by
  unfold zoneP
  repeat' split
  all_goals omega
theorem pocketI_range (v mode : Int) : 0 ≤ pocketI v mode ∧ pocketI v mode ≤ 12 := by
  unfold pocketI pocketP
  split
  · have := digitFrom_range v.toNat 9
    omega
  · have := zoneP_range v.toNat
    omega

theorem and_one12 (x : Nat) (h : x ≤ 4095) : bits .and .i64 (x : Int) 1 = ((x % 2 : Nat) : Int) := by
  have := i64_and_nat x 1 (by omega) (by omega)
  rw [show ((1 : Nat) : Int) = 1 from rfl, Nat.and_one_is_mod] at this
  exact this
theorem and_pow12 (m i : Nat) (h : m ≤ 4095) (hi : i ≤ 11) : bits .and .i64 (m : Int) ((2 ^ i : Nat) : Int) = ((m / 2 ^ i % 2 * 2 ^ i : Nat) : Int) := by
  have hp : 2 ^ i ≤ 2 ^ 11 := Nat.pow_le_pow_right (by omega) hi
  rw [i64_and_nat m (2 ^ i) (by omega) (by omega), nat_bit]
theorem pow_ne (m i : Nat) (h : m ≤ 4095) (hi : i ≤ 11) : (bits .and .i64 (m : Int) ((2 ^ i : Nat) : Int) != 0) = (m / 2 ^ i % 2 == 1) := by
  rw [and_pow12 m i h hi]
  have hp : 0 < 2 ^ i := Nat.pow_pos (by omega)
  have hq : ((1 * 2 ^ i : Nat) : Int) ≠ 0 := by rw [Nat.one_mul]; omega
  rcases Nat.mod_two_eq_zero_or_one (m / 2 ^ i) with h0 | h0 <;> rw [h0]
  · simp
  · rw [show (1 == 1) = true from rfl, bne_iff_ne]
    exact hq
theorem digit_yes {m d : Nat} (h : dg m (d + 1) = true) : digitFrom m (d + 1) = ((d + 1 : Nat) : Int) := by rw [digitFrom, if_pos h]
theorem digit_no {m d : Nat} (h : dg m (d + 1) = false) : digitFrom m (d + 1) = digitFrom m d := by rw [digitFrom, if_neg (by simp [h])]
theorem dgA_1 (m : Nat) (h : m ≤ 4095) : (bits .and .i64 ((m : Int) / 8) 1 == 1) = dg m 1 := by
  have e : ((m : Int) / 8) = ((m / 8 : Nat) : Int) := by omega
  rw [e, and_one12 _ (by omega)]
  unfold dg
  rcases Nat.mod_two_eq_zero_or_one (m / 8) with h0 | h0 <;> rw [h0] <;> simp
theorem dgB_1 (m : Nat) (h : m ≤ 4095) : (bits .and .i64 (m : Int) (bitV 1) != 0) = dg m 1 := pow_ne m 3 h (by omega)
theorem dgA_2 (m : Nat) (h : m ≤ 4095) : (bits .and .i64 ((m : Int) / 8 / 2) 1 == 1) = dg m 2 := by
  have e : ((m : Int) / 8 / 2) = ((m / 16 : Nat) : Int) := by omega
  rw [e, and_one12 _ (by omega)]
  unfold dg
  rcases Nat.mod_two_eq_zero_or_one (m / 16) with h0 | h0 <;> rw [h0] <;> simp
theorem dgB_2 (m : Nat) (h : m ≤ 4095) : (bits .and .i64 (m : Int) (bitV 2) != 0) = dg m 2 := pow_ne m 4 h (by omega)
theorem dgA_3 (m : Nat) (h : m ≤ 4095) : (bits .and .i64 ((m : Int) / 8 / 4) 1 == 1) = dg m 3 := by
  have e : ((m : Int) / 8 / 4) = ((m / 32 : Nat) : Int) := by omega
  rw [e, and_one12 _ (by omega)]
  unfold dg
  rcases Nat.mod_two_eq_zero_or_one (m / 32) with h0 | h0 <;> rw [h0] <;> simp
theorem dgB_3 (m : Nat) (h : m ≤ 4095) : (bits .and .i64 (m : Int) (bitV 3) != 0) = dg m 3 := pow_ne m 5 h (by omega)
theorem dgA_4 (m : Nat) (h : m ≤ 4095) : (bits .and .i64 ((m : Int) / 8 / 8) 1 == 1) = dg m 4 := by
  have e : ((m : Int) / 8 / 8) = ((m / 64 : Nat) : Int) := by omega
  rw [e, and_one12 _ (by omega)]
  unfold dg
  rcases Nat.mod_two_eq_zero_or_one (m / 64) with h0 | h0 <;> rw [h0] <;> simp
theorem dgB_4 (m : Nat) (h : m ≤ 4095) : (bits .and .i64 (m : Int) (bitV 4) != 0) = dg m 4 := pow_ne m 6 h (by omega)
theorem dgA_5 (m : Nat) (h : m ≤ 4095) : (bits .and .i64 ((m : Int) / 8 / 16) 1 == 1) = dg m 5 := by
  have e : ((m : Int) / 8 / 16) = ((m / 128 : Nat) : Int) := by omega
  rw [e, and_one12 _ (by omega)]
  unfold dg
  rcases Nat.mod_two_eq_zero_or_one (m / 128) with h0 | h0 <;> rw [h0] <;> simp
theorem dgB_5 (m : Nat) (h : m ≤ 4095) : (bits .and .i64 (m : Int) (bitV 5) != 0) = dg m 5 := pow_ne m 7 h (by omega)
theorem dgA_6 (m : Nat) (h : m ≤ 4095) : (bits .and .i64 ((m : Int) / 8 / 32) 1 == 1) = dg m 6 := by
  have e : ((m : Int) / 8 / 32) = ((m / 256 : Nat) : Int) := by omega
  rw [e, and_one12 _ (by omega)]
  unfold dg
  rcases Nat.mod_two_eq_zero_or_one (m / 256) with h0 | h0 <;> rw [h0] <;> simp
theorem dgB_6 (m : Nat) (h : m ≤ 4095) : (bits .and .i64 (m : Int) (bitV 6) != 0) = dg m 6 := pow_ne m 8 h (by omega)
theorem dgA_7 (m : Nat) (h : m ≤ 4095) : (bits .and .i64 ((m : Int) / 8 / 64) 1 == 1) = dg m 7 := by
  have e : ((m : Int) / 8 / 64) = ((m / 512 : Nat) : Int) := by omega
  rw [e, and_one12 _ (by omega)]
  unfold dg
  rcases Nat.mod_two_eq_zero_or_one (m / 512) with h0 | h0 <;> rw [h0] <;> simp
theorem dgB_7 (m : Nat) (h : m ≤ 4095) : (bits .and .i64 (m : Int) (bitV 7) != 0) = dg m 7 := pow_ne m 9 h (by omega)
theorem dgA_8 (m : Nat) (h : m ≤ 4095) : (bits .and .i64 ((m : Int) / 8 / 128) 1 == 1) = dg m 8 := by
  have e : ((m : Int) / 8 / 128) = ((m / 1024 : Nat) : Int) := by omega
  rw [e, and_one12 _ (by omega)]
  unfold dg
  rcases Nat.mod_two_eq_zero_or_one (m / 1024) with h0 | h0 <;> rw [h0] <;> simp
theorem dgB_8 (m : Nat) (h : m ≤ 4095) : (bits .and .i64 (m : Int) (bitV 8) != 0) = dg m 8 := pow_ne m 10 h (by omega)
theorem dgA_9 (m : Nat) (h : m ≤ 4095) : (bits .and .i64 ((m : Int) / 8 / 256) 1 == 1) = dg m 9 := by
  have e : ((m : Int) / 8 / 256) = ((m / 2048 : Nat) : Int) := by omega
  rw [e, and_one12 _ (by omega)]
  unfold dg
  rcases Nat.mod_two_eq_zero_or_one (m / 2048) with h0 | h0 <;> rw [h0] <;> simp
theorem dgB_9 (m : Nat) (h : m ≤ 4095) : (bits .and .i64 (m : Int) (bitV 9) != 0) = dg m 9 := pow_ne m 11 h (by omega)

theorem z0 (m : Nat) (h : m ≤ 4095) : (bits .and .i64 (m : Int) 1 != 0) = (m % 2 == 1) := by
  have := pow_ne m 0 h (by omega)
  simpa using this
theorem z1 (m : Nat) (h : m ≤ 4095) : (bits .and .i64 (m : Int) 2 != 0) = (m / 2 % 2 == 1) := pow_ne m 1 h (by omega)
theorem z2 (m : Nat) (h : m ≤ 4095) : (bits .and .i64 (m : Int) 4 != 0) = (m / 4 % 2 == 1) := pow_ne m 2 h (by omega)

end Go.Proofs.YtkmejkeanmjfbaaDoor
