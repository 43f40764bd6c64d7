/- The pockets of a column; in the program and in the reference. -/
import Derived.Test.YtmfoaggohlfflaaGreatDoorCodeAll
import Derived.Laws.BitsAllLaws
namespace Go.Proofs.YtmfoaggohlfflaaGreatDoor
open Go.RowKit

/-- Is there a hole in the row of a digit? -/
def dg (m d : Nat) : Bool := m / 2 ^ (d + 2) % 2 == 1
def digitFrom (m : Nat) : Nat → Int
  | 0 => if m = 4 then 0 else 12
  | d + 1 => if dg m (d + 1) = true then ((d + 1 : Nat) : Int) else digitFrom m d
def zoneP (m : Nat) : Int := if m % 2 = 1 then 11 else if m / 2 % 2 = 1 then 10 else if m / 4 % 2 = 1 ∧ 7 < m then 0 else if m ≠ 0 then 1 else 12
def pocketP (m : Nat) (mode : Int) : Int := if mode = 1 then digitFrom m 9 else zoneP m
def pocketI (v mode : Int) : Int := pocketP v.toNat mode
theorem digitFrom_range (m : Nat) (d : Nat) : 0 ≤ digitFrom m d ∧ (digitFrom m d ≤ d ∨ digitFrom m d = 12) := by
  induction d with
  | zero => unfold digitFrom; split <;> omega
  | succ d ih =>
    unfold digitFrom
    split
    · omega
    · omega
theorem zoneP_range (m : Nat) : zoneP m = 11 ∨ zoneP m = 10 ∨ zoneP m = 0 ∨ zoneP m = 1 ∨ zoneP m = 12 := by
  unfold zoneP
  repeat' split
  all_goals omega
theorem pocketI_range (v mode : Int) : 0 ≤ pocketI v mode ∧ pocketI v mode ≤ 12 := by
  unfold pocketI pocketP
  split
  · have := digitFrom_range v.toNat 9
    omega
  · have := zoneP_range v.toNat
    omega

theorem and_one12 (x : Nat) (h : x ≤ 4095) : bits .and .i64 (x : Int) 1 = ((x % 2 : Nat) : Int) := by
  have := i64_and_nat x 1 (by omega) (by omega)
  rw [show ((1 : Nat) : Int) = 1 from rfl, Nat.and_one_is_mod] at this
  exact this
theorem and_pow12 (m i : Nat) (h : m ≤ 4095) (hi : i ≤ 11) : bits .and .i64 (m : Int) ((2 ^ i : Nat) : Int) = ((m / 2 ^ i % 2 * 2 ^ i : Nat) : Int) := by
  have hp : 2 ^ i ≤ 2 ^ 11 := Nat.pow_le_pow_right (by omega) hi
  rw [i64_and_nat m (2 ^ i) (by omega) (by omega), nat_bit]
theorem pow_ne (m i : Nat) (h : m ≤ 4095) (hi : i ≤ 11) : (bits .and .i64 (m : Int) ((2 ^ i : Nat) : Int) != 0) = (m / 2 ^ i % 2 == 1) := by
  rw [and_pow12 m i h hi]
  have hp : 0 < 2 ^ i := Nat.pow_pos (by omega)
  have hq : ((1 * 2 ^ i : Nat) : Int) ≠ 0 := by rw [Nat.one_mul]; omega
  rcases Nat.mod_two_eq_zero_or_one (m / 2 ^ i) with h0 | h0 <;> rw [h0]
  · simp
  · rw [show (1 == 1) = true from rfl, bne_iff_ne]
    exact hq
theorem digit_yes {m d : Nat} (h : dg m (d + 1) = true) : digitFrom m (d + 1) = ((d + 1 : Nat) : Int) := by rw [digitFrom, if_pos h]
theorem digit_no {m d : Nat} (h : dg m (d + 1) = false) : digitFrom m (d + 1) = digitFrom m d := by rw [digitFrom, if_neg (by simp [h])]
theorem dgA_1 (m : Nat) (h : m ≤ 4095) : (bits .and .i64 ((m : Int) / 8) 1 == 1) = dg m 1 := by
  have e : ((m : Int) / 8) = ((m / 8 : Nat) : Int) := by omega
  rw [e, and_one12 _ (by omega)]
  unfold dg
  rcases Nat.mod_two_eq_zero_or_one (m / 8) with h0 | h0 <;> rw [h0] <;> simp
theorem dgB_1 (m : Nat) (h : m ≤ 4095) : (bits .and .i64 (m : Int) (bitV 1) != 0) = dg m 1 := pow_ne m 3 h (by omega)
theorem dgA_2 (m : Nat) (h : m ≤ 4095) : (bits .and .i64 ((m : Int) / 8 / 2) 1 == 1) = dg m 2 := by
  have e : ((m : Int) / 8 / 2) = ((m / 16 : Nat) : Int) := by omega
  rw [e, and_one12 _ (by omega)]
  unfold dg
  rcases Nat.mod_two_eq_zero_or_one (m / 16) with h0 | h0 <;> rw [h0] <;> simp
theorem dgB_2 (m : Nat) (h : m ≤ 4095) : (bits .and .i64 (m : Int) (bitV 2) != 0) = dg m 2 := pow_ne m 4 h (by omega)
theorem dgA_3 (m : Nat) (h : m ≤ 4095) : (bits .and .i64 ((m : Int) / 8 / 4) 1 == 1) = dg m 3 := by
  have e : ((m : Int) / 8 / 4) = ((m / 32 : Nat) : Int) := by omega
  rw [e, and_one12 _ (by omega)]
  unfold dg
  rcases Nat.mod_two_eq_zero_or_one (m / 32) with h0 | h0 <;> rw [h0] <;> simp
theorem dgB_3 (m : Nat) (h : m ≤ 4095) : (bits .and .i64 (m : Int) (bitV 3) != 0) = dg m 3 := pow_ne m 5 h (by omega)
theorem dgA_4 (m : Nat) (h : m ≤ 4095) : (bits .and .i64 ((m : Int) / 8 / 8) 1 == 1) = dg m 4 := by
  have e : ((m : Int) / 8 / 8) = ((m / 64 : Nat) : Int) := by omega
  rw [e, and_one12 _ (by omega)]
  unfold dg
  rcases Nat.mod_two_eq_zero_or_one (m / 64) with h0 | h0 <;> rw [h0] <;> simp
theorem dgB_4 (m : Nat) (h : m ≤ 4095) : (bits .and .i64 (m : Int) (bitV 4) != 0) = dg m 4 := pow_ne m 6 h (by omega)
theorem dgA_5 (m : Nat) (h : m ≤ 4095) : (bits .and .i64 ((m : Int) / 8 / 16) 1 == 1) = dg m 5 := by
  have e : ((m : Int) / 8 / 16) = ((m / 128 : Nat) : Int) := by omega
  rw [e, and_one12 _ (by omega)]
  unfold dg
  rcases Nat.mod_two_eq_zero_or_one (m / 128) with h0 | h0 <;> rw [h0] <;> simp
theorem dgB_5 (m : Nat) (h : m ≤ 4095) : (bits .and .i64 (m : Int) (bitV 5) != 0) = dg m 5 := pow_ne m 7 h (by omega)
theorem dgA_6 (m : Nat) (h : m ≤ 4095) : (bits .and .i64 ((m : Int) / 8 / 32) 1 == 1) = dg m 6 := by
  have e : ((m : Int) / 8 / 32) = ((m / 256 : Nat) : Int) := by omega
  rw [e, and_one12 _ (by omega)]
  unfold dg
  rcases Nat.mod_two_eq_zero_or_one (m / 256) with h0 | h0 <;> rw [h0] <;> simp
theorem dgB_6 (m : Nat) (h : m ≤ 4095) : (bits .and .i64 (m : Int) (bitV 6) != 0) = dg m 6 := pow_ne m 8 h (by omega)
theorem dgA_7 (m : Nat) (h : m ≤ 4095) : (bits .and .i64 ((m : Int) / 8 / 64) 1 == 1) = dg m 7 := by
  have e : ((m : Int) / 8 / 64) = ((m / 512 : Nat) : Int) := by omega
  rw [e, and_one12 _ (by omega)]
  unfold dg
  rcases Nat.mod_two_eq_zero_or_one (m / 512) with h0 | h0 <;> rw [h0] <;> simp
theorem dgB_7 (m : Nat) (h : m ≤ 4095) : (bits .and .i64 (m : Int) (bitV 7) != 0) = dg m 7 := pow_ne m 9 h (by omega)
theorem dgA_8 (m : Nat) (h : m ≤ 4095) : (bits .and .i64 ((m : Int) / 8 / 128) 1 == 1) = dg m 8 := by
  have e : ((m : Int) / 8 / 128) = ((m / 1024 : Nat) : Int) := by omega
  rw [e, and_one12 _ (by omega)]
  unfold dg
  rcases Nat.mod_two_eq_zero_or_one (m / 1024) with h0 | h0 <;> rw [h0] <;> simp
theorem dgB_8 (m : Nat) (h : m ≤ 4095) : (bits .and .i64 (m : Int) (bitV 8) != 0) = dg m 8 := pow_ne m 10 h (by omega)
theorem dgA_9 (m : Nat) (h : m ≤ 4095) : (bits .and .i64 ((m : Int) / 8 / 256) 1 == 1) = dg m 9 := by
  have e : ((m : Int) / 8 / 256) = ((m / 2048 : Nat) : Int) := by omega
  rw [e, and_one12 _ (by omega)]
  unfold dg
  rcases Nat.mod_two_eq_zero_or_one (m / 2048) with h0 | h0 <;> rw [h0] <;> simp
theorem dgB_9 (m : Nat) (h : m ≤ 4095) : (bits .and .i64 (m : Int) (bitV 9) != 0) = dg m 9 := pow_ne m 11 h (by omega)

theorem z0 (m : Nat) (h : m ≤ 4095) : (bits .and .i64 (m : Int) 1 != 0) = (m % 2 == 1) := by
  have := pow_ne m 0 h (by omega)
  simpa using this
theorem z1 (m : Nat) (h : m ≤ 4095) : (bits .and .i64 (m : Int) 2 != 0) = (m / 2 % 2 == 1) := pow_ne m 1 h (by omega)
theorem z2 (m : Nat) (h : m ≤ 4095) : (bits .and .i64 (m : Int) 4 != 0) = (m / 4 % 2 == 1) := pow_ne m 2 h (by omega)

set_option maxHeartbeats 4000000 in
theorem pocketOf_zone (m : Nat) (mode : Int) (h : m ≤ 4095) (w : World) (hm : ¬ mode = 1) :
    Calls Tryz.prog 104 #[.int .i64 (m : Int), .int .i64 mode] w fun e w' => e = .returned (.int .i64 (zoneP m)) ∧ w = w' := by
  have e0 := z0 m h
  have e1 := z1 m h
  have e2 := z2 m h
  have hmm : (mode == 1) = false := by simpa using hm
  have b12 : bitV 12 = 1 := by decide
  have b11 : bitV 11 = 2 := by decide
  have b0' : bitV 0 = 4 := by decide
  by_cases h0 : m % 2 = 1
  · have t0 : (bits .and .i64 (m : Int) 1 != 0) = true := by rw [e0]; simpa using h0
    have HR := Lib.hid (show zoneP m = 11 by unfold zoneP; rw [if_pos h0])
    clear e0 e1 e2 h0
    go_enter Tryz.func104, Tryz.ntmps104
    go_wp2_with (first | (go_at_call 93; refine (bitOf_any _ _ (by omega)).mono ?_; rintro e w1 ⟨rfl, rfl⟩))
    go_ret
    exact ⟨ret_int HR.out.symm, rfl⟩
  have t0 : (bits .and .i64 (m : Int) 1 != 0) = false := by rw [e0]; simpa using h0
  by_cases h1 : m / 2 % 2 = 1
  · have t1 : (bits .and .i64 (m : Int) 2 != 0) = true := by rw [e1]; simpa using h1
    have HR := Lib.hid (show zoneP m = 10 by unfold zoneP; rw [if_neg h0, if_pos h1])
    clear e0 e1 e2 h0 h1
    go_enter Tryz.func104, Tryz.ntmps104
    go_wp2_with (first | (go_at_call 93; refine (bitOf_any _ _ (by omega)).mono ?_; rintro e w1 ⟨rfl, rfl⟩))
    go_ret
    exact ⟨ret_int HR.out.symm, rfl⟩
  have t1 : (bits .and .i64 (m : Int) 2 != 0) = false := by rw [e1]; simpa using h1
  by_cases h2 : m / 4 % 2 = 1
  · have t2 : (bits .and .i64 (m : Int) 4 != 0) = true := by rw [e2]; simpa using h2
    by_cases h3 : 7 < m
    · have HR := Lib.hid (show zoneP m = 0 by unfold zoneP; rw [if_neg h0, if_neg h1, if_pos ⟨h2, h3⟩])
      have i3 : (7 : Int) < (m : Int) := by omega
      have i4 : ((m : Int) / 8 != 0) = true := by simp; omega
      have i5 : ((m : Int) / 8 == 0) = false := by simp; omega
      clear e0 e1 e2 h0 h1 h2 h3
      go_enter Tryz.func104, Tryz.ntmps104
      go_wp2_with (first | (go_at_call 93; refine (bitOf_any _ _ (by omega)).mono ?_; rintro e w1 ⟨rfl, rfl⟩))
      go_ret
      exact ⟨ret_int HR.out.symm, rfl⟩
    · have HR := Lib.hid (show zoneP m = 1 by unfold zoneP; rw [if_neg h0, if_neg h1, if_neg (by omega), if_pos (by omega)])
      have i3 : ¬ (7 : Int) < (m : Int) := by omega
      have i4 : ((m : Int) / 8 != 0) = false := by simp; omega
      have i4' : ((m : Int) / 8 == 0) = true := by simp; omega
      have i5 : ((m : Int) != 0) = true := by simp; omega
      have i6 : ((m : Int) == 0) = false := by simp; omega
      clear e0 e1 e2 h0 h1 h2 h3
      go_enter Tryz.func104, Tryz.ntmps104
      go_wp2_with (first | (go_at_call 93; refine (bitOf_any _ _ (by omega)).mono ?_; rintro e w1 ⟨rfl, rfl⟩))
      go_ret
      exact ⟨ret_int HR.out.symm, rfl⟩
  have t2 : (bits .and .i64 (m : Int) 4 != 0) = false := by rw [e2]; simpa using h2
  by_cases h3 : m = 0
  · have HR := Lib.hid (show zoneP m = 12 by unfold zoneP; rw [if_neg h0, if_neg h1, if_neg (by omega), if_neg (by omega)])
    have i5 : ((m : Int) != 0) = false := by simp; omega
    have i6 : ((m : Int) == 0) = true := by simp; omega
    clear e0 e1 e2 h0 h1 h2 h3
    go_enter Tryz.func104, Tryz.ntmps104
    go_wp2_with (first | (go_at_call 93; refine (bitOf_any _ _ (by omega)).mono ?_; rintro e w1 ⟨rfl, rfl⟩))
    go_ret
    exact ⟨ret_int HR.out.symm, rfl⟩
  · have HR := Lib.hid (show zoneP m = 1 by unfold zoneP; rw [if_neg h0, if_neg h1, if_neg (by omega), if_pos (by omega)])
    have i5 : ((m : Int) != 0) = true := by simp; omega
    have i6 : ((m : Int) == 0) = false := by simp; omega
    clear e0 e1 e2 h0 h1 h2 h3
    go_enter Tryz.func104, Tryz.ntmps104
    go_wp2_with (first | (go_at_call 93; refine (bitOf_any _ _ (by omega)).mono ?_; rintro e w1 ⟨rfl, rfl⟩))
    go_ret
    exact ⟨ret_int HR.out.symm, rfl⟩

set_option maxHeartbeats 4000000 in
theorem pocketOf_digit (m : Nat) (h : m ≤ 4095) (w : World) :
    Calls Tryz.prog 104 #[.int .i64 (m : Int), .int .i64 1] w fun e w' => e = .returned (.int .i64 (digitFrom m 9)) ∧ w = w' := by
  have hv0 : bitV 0 = 4 := by decide
  go_enter Tryz.func104, Tryz.ntmps104
  go_wp2
  go_loop [6] (fun q => ∃ d : Nat, d ≤ 9 ∧ q = .int .i64 d ∧ digitFrom m d = digitFrom m 9) (fun q => (intOf q).toNat)
  case atStart => exact ⟨9, by omega, rfl, rfl⟩
  case round =>
    obtain ⟨d, hd, rfl, hf⟩ := hrel
    have HF := Lib.hid hf
    clear hf
    rcases (show d = 0 ∨ d = 1 ∨ d = 2 ∨ d = 3 ∨ d = 4 ∨ d = 5 ∨ d = 6 ∨ d = 7 ∨ d = 8 ∨ d = 9 by omega) with rfl | rfl | rfl | rfl | rfl | rfl | rfl | rfl | rfl | rfl
    · by_cases h4 : m = 4
      · subst h4
        go_wp2_with fail
        refine (bitOf_any _ _ (by omega)).mono ?_; rintro e w1 ⟨rfl, rfl⟩
        go_wp2
        go_ret
        exact ⟨ret_int (by first | rfl | (rw [← HF.out]; rfl)), rfl⟩
      · have h5 : ((m : Int) == 4) = false := by simp; omega
        have HR := Lib.hid (show digitFrom m 0 = 12 by unfold digitFrom; rw [if_neg h4])
        go_wp2_with fail
        refine (bitOf_any _ _ (by omega)).mono ?_; rintro e w1 ⟨rfl, rfl⟩
        go_wp2
        go_ret
        exact ⟨ret_int (by first | exact HR.out.symm | (rw [← HF.out, HR.out])), rfl⟩
    · have HB := Lib.hid (dgA_1 m h)
      rcases Bool.eq_false_or_eq_true (dg m 1) with hq | hq
      · have ht : (bits .and .i64 ((m : Int) / 8) 1 == 1) = true := HB.out.trans hq
        have HR := Lib.hid (show digitFrom m 1 = 1 from digit_yes hq)
        clear hq
        go_wp2
        go_ret
        exact ⟨ret_int (by first | exact HR.out.symm | (rw [← HF.out, HR.out])), rfl⟩
      · have ht : (bits .and .i64 ((m : Int) / 8) 1 == 1) = false := HB.out.trans hq
        have HR := Lib.hid (show digitFrom m 1 = digitFrom m 0 from digit_no hq)
        clear hq
        go_wp2
        go_round
        case rel => exact ⟨0, by omega, by go_num, by first | exact HR.out.symm | (rw [← HR.out, HF.out])⟩
        case measure => simp [intOf]
    · have HB := Lib.hid (dgA_2 m h)
      rcases Bool.eq_false_or_eq_true (dg m 2) with hq | hq
      · have ht : (bits .and .i64 ((m : Int) / 8 / 2) 1 == 1) = true := HB.out.trans hq
        have HR := Lib.hid (show digitFrom m 2 = 2 from digit_yes hq)
        clear hq
        go_wp2
        go_ret
        exact ⟨ret_int (by first | exact HR.out.symm | (rw [← HF.out, HR.out])), rfl⟩
      · have ht : (bits .and .i64 ((m : Int) / 8 / 2) 1 == 1) = false := HB.out.trans hq
        have HR := Lib.hid (show digitFrom m 2 = digitFrom m 1 from digit_no hq)
        clear hq
        go_wp2
        go_round
        case rel => exact ⟨1, by omega, by go_num, by first | exact HR.out.symm | (rw [← HR.out, HF.out])⟩
        case measure => simp [intOf]
    · have HB := Lib.hid (dgA_3 m h)
      rcases Bool.eq_false_or_eq_true (dg m 3) with hq | hq
      · have ht : (bits .and .i64 ((m : Int) / 8 / 4) 1 == 1) = true := HB.out.trans hq
        have HR := Lib.hid (show digitFrom m 3 = 3 from digit_yes hq)
        clear hq
        go_wp2
        go_ret
        exact ⟨ret_int (by first | exact HR.out.symm | (rw [← HF.out, HR.out])), rfl⟩
      · have ht : (bits .and .i64 ((m : Int) / 8 / 4) 1 == 1) = false := HB.out.trans hq
        have HR := Lib.hid (show digitFrom m 3 = digitFrom m 2 from digit_no hq)
        clear hq
        go_wp2
        go_round
        case rel => exact ⟨2, by omega, by go_num, by first | exact HR.out.symm | (rw [← HR.out, HF.out])⟩
        case measure => simp [intOf]
    · have HB := Lib.hid (dgA_4 m h)
      rcases Bool.eq_false_or_eq_true (dg m 4) with hq | hq
      · have ht : (bits .and .i64 ((m : Int) / 8 / 8) 1 == 1) = true := HB.out.trans hq
        have HR := Lib.hid (show digitFrom m 4 = 4 from digit_yes hq)
        clear hq
        go_wp2
        go_ret
        exact ⟨ret_int (by first | exact HR.out.symm | (rw [← HF.out, HR.out])), rfl⟩
      · have ht : (bits .and .i64 ((m : Int) / 8 / 8) 1 == 1) = false := HB.out.trans hq
        have HR := Lib.hid (show digitFrom m 4 = digitFrom m 3 from digit_no hq)
        clear hq
        go_wp2
        go_round
        case rel => exact ⟨3, by omega, by go_num, by first | exact HR.out.symm | (rw [← HR.out, HF.out])⟩
        case measure => simp [intOf]
    · have HB := Lib.hid (dgA_5 m h)
      rcases Bool.eq_false_or_eq_true (dg m 5) with hq | hq
      · have ht : (bits .and .i64 ((m : Int) / 8 / 16) 1 == 1) = true := HB.out.trans hq
        have HR := Lib.hid (show digitFrom m 5 = 5 from digit_yes hq)
        clear hq
        go_wp2
        go_ret
        exact ⟨ret_int (by first | exact HR.out.symm | (rw [← HF.out, HR.out])), rfl⟩
      · have ht : (bits .and .i64 ((m : Int) / 8 / 16) 1 == 1) = false := HB.out.trans hq
        have HR := Lib.hid (show digitFrom m 5 = digitFrom m 4 from digit_no hq)
        clear hq
        go_wp2
        go_round
        case rel => exact ⟨4, by omega, by go_num, by first | exact HR.out.symm | (rw [← HR.out, HF.out])⟩
        case measure => simp [intOf]
    · have HB := Lib.hid (dgA_6 m h)
      rcases Bool.eq_false_or_eq_true (dg m 6) with hq | hq
      · have ht : (bits .and .i64 ((m : Int) / 8 / 32) 1 == 1) = true := HB.out.trans hq
        have HR := Lib.hid (show digitFrom m 6 = 6 from digit_yes hq)
        clear hq
        go_wp2
        go_ret
        exact ⟨ret_int (by first | exact HR.out.symm | (rw [← HF.out, HR.out])), rfl⟩
      · have ht : (bits .and .i64 ((m : Int) / 8 / 32) 1 == 1) = false := HB.out.trans hq
        have HR := Lib.hid (show digitFrom m 6 = digitFrom m 5 from digit_no hq)
        clear hq
        go_wp2
        go_round
        case rel => exact ⟨5, by omega, by go_num, by first | exact HR.out.symm | (rw [← HR.out, HF.out])⟩
        case measure => simp [intOf]
    · have HB := Lib.hid (dgA_7 m h)
      rcases Bool.eq_false_or_eq_true (dg m 7) with hq | hq
      · have ht : (bits .and .i64 ((m : Int) / 8 / 64) 1 == 1) = true := HB.out.trans hq
        have HR := Lib.hid (show digitFrom m 7 = 7 from digit_yes hq)
        clear hq
        go_wp2
        go_ret
        exact ⟨ret_int (by first | exact HR.out.symm | (rw [← HF.out, HR.out])), rfl⟩
      · have ht : (bits .and .i64 ((m : Int) / 8 / 64) 1 == 1) = false := HB.out.trans hq
        have HR := Lib.hid (show digitFrom m 7 = digitFrom m 6 from digit_no hq)
        clear hq
        go_wp2
        go_round
        case rel => exact ⟨6, by omega, by go_num, by first | exact HR.out.symm | (rw [← HR.out, HF.out])⟩
        case measure => simp [intOf]
    · have HB := Lib.hid (dgA_8 m h)
      rcases Bool.eq_false_or_eq_true (dg m 8) with hq | hq
      · have ht : (bits .and .i64 ((m : Int) / 8 / 128) 1 == 1) = true := HB.out.trans hq
        have HR := Lib.hid (show digitFrom m 8 = 8 from digit_yes hq)
        clear hq
        go_wp2
        go_ret
        exact ⟨ret_int (by first | exact HR.out.symm | (rw [← HF.out, HR.out])), rfl⟩
      · have ht : (bits .and .i64 ((m : Int) / 8 / 128) 1 == 1) = false := HB.out.trans hq
        have HR := Lib.hid (show digitFrom m 8 = digitFrom m 7 from digit_no hq)
        clear hq
        go_wp2
        go_round
        case rel => exact ⟨7, by omega, by go_num, by first | exact HR.out.symm | (rw [← HR.out, HF.out])⟩
        case measure => simp [intOf]
    · have HB := Lib.hid (dgA_9 m h)
      rcases Bool.eq_false_or_eq_true (dg m 9) with hq | hq
      · have ht : (bits .and .i64 ((m : Int) / 8 / 256) 1 == 1) = true := HB.out.trans hq
        have HR := Lib.hid (show digitFrom m 9 = 9 from digit_yes hq)
        clear hq
        go_wp2
        go_ret
        exact ⟨ret_int (by first | exact HR.out.symm | (rw [← HF.out, HR.out])), rfl⟩
      · have ht : (bits .and .i64 ((m : Int) / 8 / 256) 1 == 1) = false := HB.out.trans hq
        have HR := Lib.hid (show digitFrom m 9 = digitFrom m 8 from digit_no hq)
        clear hq
        go_wp2
        go_round
        case rel => exact ⟨8, by omega, by go_num, by first | exact HR.out.symm | (rw [← HR.out, HF.out])⟩
        case measure => simp [intOf]

theorem pocketOf_any (v mode : Int) (h0 : 0 ≤ v) (h1 : v ≤ 4095) (w : World) :
    Calls Tryz.prog 104 #[.int .i64 v, .int .i64 mode] w fun e w' => e = .returned (.int .i64 (pocketI v mode)) ∧ w = w' := by
  obtain ⟨m, rfl⟩ := Int.eq_ofNat_of_zero_le h0
  unfold pocketI pocketP
  by_cases hm : mode = 1
  · subst hm
    rw [if_pos rfl]
    exact pocketOf_digit m (by omega) w
  · rw [if_neg hm]
    exact pocketOf_zone m mode (by omega) w hm
end Go.Proofs.YtmfoaggohlfflaaGreatDoor
