/- The operations on bits at small int64. No program in sight. -/
import Derived.Test.YteeaeomkpecflaaWords
namespace Go.Proofs.Yteeaeomkpecflaa
open Go.RowKit

theorem wrap_i64_small (n : Nat) (h : n < 4611686018427387904) : IntKind.i64.wrap (n : Int) = n := by
  simp [IntKind.wrap, IntKind.bits, IntKind.signed]
  omega
theorem ofInt_64 (a : Nat) (ha : a < 4611686018427387904) : (BitVec.ofInt 64 (a : Int)).toNat = a := by
  rw [BitVec.ofInt_natCast, BitVec.toNat_ofNat]; exact Nat.mod_eq_of_lt (by omega)
theorem i64_xor_nat (a b : Nat) (ha : a < 4611686018427387904) (hb : b < 4611686018427387904) : bits .xor .i64 (a : Int) (b : Int) = ((a ^^^ b : Nat) : Int) := by
  have hx : a ^^^ b < 2 ^ 62 := Nat.xor_lt_two_pow (by omega) (by omega)
  show IntKind.i64.wrap ((BitVec.ofInt 64 (a : Int) ^^^ BitVec.ofInt 64 (b : Int)).toNat : Int) = _
  rw [BitVec.toNat_xor, ofInt_64 a ha, ofInt_64 b hb, wrap_i64_small _ (by omega)]
theorem i64_or_nat (a b : Nat) (ha : a < 4611686018427387904) (hb : b < 4611686018427387904) : bits .or .i64 (a : Int) (b : Int) = ((a ||| b : Nat) : Int) := by
  have hx : a ||| b < 2 ^ 62 := Nat.or_lt_two_pow (by omega) (by omega)
  show IntKind.i64.wrap ((BitVec.ofInt 64 (a : Int) ||| BitVec.ofInt 64 (b : Int)).toNat : Int) = _
  rw [BitVec.toNat_or, ofInt_64 a ha, ofInt_64 b hb, wrap_i64_small _ (by omega)]
theorem i64_and_nat (a b : Nat) (ha : a < 4611686018427387904) (hb : b < 4611686018427387904) : bits .and .i64 (a : Int) (b : Int) = ((a &&& b : Nat) : Int) := by
  have hx : a &&& b < 2 ^ 62 := Nat.and_lt_two_pow _ (by omega)
  show IntKind.i64.wrap ((BitVec.ofInt 64 (a : Int) &&& BitVec.ofInt 64 (b : Int)).toNat : Int) = _
  rw [BitVec.toNat_and, ofInt_64 a ha, ofInt_64 b hb, wrap_i64_small _ (by omega)]

/-- Twelve bits stay twelve bits. -/
theorem xor12 {a b : Int} (h0 : 0 ≤ a) (h1 : a ≤ 4095) (h2 : 0 ≤ b) (h3 : b ≤ 4095) : bits .xor .i64 a b = ((a.toNat ^^^ b.toNat : Nat) : Int) ∧ a.toNat ^^^ b.toNat ≤ 4095 := by
  obtain ⟨m, rfl⟩ := Int.eq_ofNat_of_zero_le h0
  obtain ⟨n, rfl⟩ := Int.eq_ofNat_of_zero_le h2
  have hx : m ^^^ n < 2 ^ 12 := Nat.xor_lt_two_pow (by omega) (by omega)
  exact ⟨by simpa using i64_xor_nat m n (by omega) (by omega), by simp; omega⟩
theorem xor12_range {a b : Int} (h0 : 0 ≤ a) (h1 : a ≤ 4095) (h2 : 0 ≤ b) (h3 : b ≤ 4095) : 0 ≤ bits .xor .i64 a b ∧ bits .xor .i64 a b ≤ 4095 := by
  have h := xor12 h0 h1 h2 h3
  rw [h.1]
  omega
theorem xor12_comm {a b : Int} (h0 : 0 ≤ a) (h1 : a ≤ 4095) (h2 : 0 ≤ b) (h3 : b ≤ 4095) : bits .xor .i64 a b = bits .xor .i64 b a := by
  rw [(xor12 h0 h1 h2 h3).1, (xor12 h2 h3 h0 h1).1, Nat.xor_comm]
theorem xor12_self {a : Int} (h0 : 0 ≤ a) (h1 : a ≤ 4095) : bits .xor .i64 a a = 0 := by
  rw [(xor12 h0 h1 h0 h1).1, Nat.xor_self]
  rfl
theorem xor12_zero {a b : Int} (h0 : 0 ≤ a) (h1 : a ≤ 4095) (h2 : 0 ≤ b) (h3 : b ≤ 4095) (h : bits .xor .i64 a b = 0) : a = b := by
  rw [(xor12 h0 h1 h2 h3).1] at h
  have h' : a.toNat ^^^ b.toNat = 0 := by omega
  have e : a.toNat ^^^ (a.toNat ^^^ b.toNat) = b.toNat := by rw [← Nat.xor_assoc, Nat.xor_self, Nat.zero_xor]
  rw [h', Nat.xor_zero] at e
  omega
end Go.Proofs.Yteeaeomkpecflaa
