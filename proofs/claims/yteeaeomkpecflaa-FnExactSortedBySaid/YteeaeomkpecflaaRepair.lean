/- The nearest character of a column; in the program and in the reference. -/
import Derived.Test.YteeaeomkpecflaaOnes
import Derived.Test.YteeaeomkpecflaaCode
namespace Go.Proofs.Yteeaeomkpecflaa
open Go.RowKit

/-- One character is tried. -/
def nearStep (m : Int) (s : UInt8 × Int) (c : UInt8) : UInt8 × Int := if diffI m (codeV c.toNat) < s.2 then (c, diffI m (codeV c.toNat)) else s
def nearTo (m : Int) (k : Nat) : UInt8 × Int := (charL.take k).foldl (nearStep m) (0, 13)
theorem nearTo_succ (m : Int) (k : Nat) (h : k < 40) : nearTo m (k + 1) = nearStep m (nearTo m k) (charL[k]'h) := by
  unfold nearTo
  rw [List.take_succ_eq_append_getElem (show k < charL.length from h), List.foldl_append]
  rfl
theorem char_code (k : Nat) (h : k < 40) : 0 ≤ codeV (charL[k]'h).toNat ∧ codeV (charL[k]'h).toNat ≤ 4095 ∧ (charL[k]'h).toNat ≤ 255 ∧ codeO (charL[k]'h).toNat = codeV (charL[k]'h).toNat := by
  have : ∀ k : Fin 40, 0 ≤ codeV (charL[k.val]'k.isLt).toNat ∧ codeV (charL[k.val]'k.isLt).toNat ≤ 4095 ∧ (charL[k.val]'k.isLt).toNat ≤ 255 ∧ codeO (charL[k.val]'k.isLt).toNat = codeV (charL[k.val]'k.isLt).toNat := by decide +kernel
  exact this ⟨k, h⟩

abbrev charB : ByteArray := { data := #[32, 38, 65, 66, 67, 68, 69, 70, 71, 72, 73, 45, 74, 75, 76, 77, 78, 79, 80, 81, 82, 47, 83, 84, 85, 86, 87, 88, 89, 90, 48, 49, 50, 51, 52, 53, 54, 55, 56, 57] }
theorem charB_at (k : Nat) (h : k < 40) : charB[k]'(by exact h) = charL[k]'h := rfl
theorem codeOf_ch (k : Nat) (h : k < 40) (w : World) :
    Calls Try.prog 156 #[.int .u8 (charB[k]'(by exact h)).toNat] w fun e w' => e = .returned (.int .i64 (codeV (charL[k]'h).toNat)) ∧ w = w' := by
  have h1 := char_code k h
  rw [charB_at k h, ← h1.2.2.2]
  exact codeOf_any _ h1.2.2.1 w
theorem l03Code_ch (k : Nat) (h : k < 40) (w : World) :
    Calls Try.prog 142 #[.int .u8 (charB[k]'(by exact h)).toNat] w fun e w' => e = .returned (.int .i64 (codeV (charL[k]'h).toNat)) ∧ w = w' := by
  have h1 := char_code k h
  rw [charB_at k h]
  exact l03Code_any _ h1.2.2.1 w
theorem l03Order_any (w : World) : Calls Try.prog 143 #[] w fun e w' => e = .returned (.string charB) ∧ w = w' := by
  go_enter Try.func143, Try.ntmps143
  go_wp2
  go_ret
  exact ⟨rfl, rfl⟩
theorem ret_ci {a b : Int} {p q : Int} (h : a = b) (k : p = q) : Ending.returned (.tuple #[.int .u8 a, .int .i64 p]) = .returned (.tuple #[.int .u8 b, .int .i64 q]) := by rw [h, k]
theorem near_yes {m : Int} {k : Nat} (h : k < 40) (ht : diffI m (codeV (charL[k]'h).toNat) < (nearTo m k).2) : nearTo m (k + 1) = (charL[k]'h, diffI m (codeV (charL[k]'h).toNat)) := by
  rw [nearTo_succ m k h, nearStep, if_pos ht]
theorem near_no {m : Int} {k : Nat} (h : k < 40) (ht : ¬ diffI m (codeV (charL[k]'h).toNat) < (nearTo m k).2) : nearTo m (k + 1) = nearTo m k := by
  rw [nearTo_succ m k h, nearStep, if_neg ht]

theorem nearTo_one (m : Int) (h0 : 0 ≤ m) (h1 : m ≤ 4095) : nearTo m 1 = (32, diffI m (codeV 32)) := by
  have := diffI_range h0 h1 (char_code 0 (by omega)).1 (char_code 0 (by omega)).2.1
  exact near_yes (by omega) (by show diffI m (codeV (charL[0]).toNat) < 13; omega)

def repC (m : Int) : Int := if insideB m 0 4095 = true then 0 else 2
def repA (m : Int) : Int := if insideB m 0 4095 = true then ((nearTo m 40).1.toNat : Int) else 0
def repN (m : Int) : Int := if insideB m 0 4095 = true then (nearTo m 40).2 else 0
theorem ret_rep {a b c a' b' c' : Int} (h1 : a = a') (h2 : b = b') (h3 : c = c') : Ending.returned (.tuple #[.int .u8 a, .int .i64 b, .int .i64 c]) = .returned (.tuple #[.int .u8 a', .int .i64 b', .int .i64 c']) := by rw [h1, h2, h3]

end Go.Proofs.Yteeaeomkpecflaa
