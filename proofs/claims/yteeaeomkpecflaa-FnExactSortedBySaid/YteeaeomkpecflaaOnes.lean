/- The count of holes; in the program and in the reference. -/
import Derived.Test.YteeaeomkpecflaaBasics
import Derived.Test.YteeaeomkpecflaaBits
namespace Go.Proofs.Yteeaeomkpecflaa
open Go.RowKit

def onesA (n : Int) : Int := IntKind.u64.wrap (bits BinOp.and IntKind.u64 (n / 2) 6148914691236517205 + bits BinOp.and IntKind.u64 n 6148914691236517205)
def onesB (a : Int) : Int := IntKind.u64.wrap (bits BinOp.and IntKind.u64 (a / 4) 3689348814741910323 + bits BinOp.and IntKind.u64 a 3689348814741910323)
def onesC (b : Int) : Int := bits BinOp.and IntKind.u64 (IntKind.u64.wrap (b / 16 + b)) 1085102592571150095
def onesD (c : Int) : Int := IntKind.u64.wrap (c + c / 256)
def onesE (d : Int) : Int := IntKind.u64.wrap (d + d / 65536)
def onesF (e : Int) : Int := IntKind.u64.wrap (e + e / 4294967296)
def onesG (f : Int) : Int := bits BinOp.and IntKind.i64 (wrap64 f) 127
def onesZ (n : Int) : Int := onesG (onesF (onesE (onesD (onesC (onesB (onesA n))))))

/-- The number of the bits of a number. -/
def popN : Nat → Nat → Nat
  | 0, _ => 0
  | f + 1, n => if n = 0 then 0 else n % 2 + popN f (n / 2)
def pop (n : Nat) : Nat := popN 13 n
theorem onesZ_fin : ∀ a b : Fin 64, onesZ ((64 * a.val + b.val : Nat) : Int) = ((pop (64 * a.val + b.val) : Nat) : Int) := by decide +kernel
theorem onesZ_all (n : Nat) (h : n ≤ 4095) : onesZ (n : Int) = (pop n : Int) := by
  have := onesZ_fin ⟨n / 64, by omega⟩ ⟨n % 64, by omega⟩
  simp only [Nat.div_add_mod] at this
  exact this

theorem popN_lt (f : Nat) : ∀ n, n < 2 ^ f → popN f n ≤ f := by
  induction f with
  | zero => intro n _; simp [popN]
  | succ f ih =>
    intro n h
    simp only [popN]
    split
    · omega
    · have := ih (n / 2) (by rw [Nat.pow_succ] at h; omega)
      omega
theorem pop_le (n : Nat) (h : n ≤ 4095) : pop n ≤ 13 := popN_lt 13 n (by omega)
theorem popN_more (f : Nat) : ∀ n, n < 2 ^ f → popN (f + 1) n = popN f n := by
  induction f with
  | zero => intro n h; have : n = 0 := by simp at h; exact h
            subst this; simp [popN]
  | succ f ih =>
    intro n h
    rw [popN]
    conv => rhs; rw [popN]
    split
    · rfl
    · rw [ih (n / 2) (by rw [Nat.pow_succ] at h; omega)]

/-- The number of holes of a column's number; the number of places in which two columns differ. -/
def popI (v : Int) : Int := (pop v.toNat : Int)
def diffI (a b : Int) : Int := popI (bits .xor .i64 a b)
theorem popI_range {v : Int} (h0 : 0 ≤ v) (h1 : v ≤ 4095) : 0 ≤ popI v ∧ popI v ≤ 12 := by
  have h := popN_lt 12 v.toNat (by omega)
  have h2 : popN 13 v.toNat = popN 12 v.toNat := popN_more 12 v.toNat (by omega)
  unfold popI pop
  omega
theorem diffI_range {a b : Int} (h0 : 0 ≤ a) (h1 : a ≤ 4095) (h2 : 0 ≤ b) (h3 : b ≤ 4095) : 0 ≤ diffI a b ∧ diffI a b ≤ 12 := by
  have := xor12_range h0 h1 h2 h3
  exact popI_range this.1 this.2
theorem diffI_comm {a b : Int} (h0 : 0 ≤ a) (h1 : a ≤ 4095) (h2 : 0 ≤ b) (h3 : b ≤ 4095) : diffI a b = diffI b a := by
  unfold diffI
  rw [xor12_comm h0 h1 h2 h3]
theorem popN_zero (f : Nat) : ∀ n, n < 2 ^ f → popN f n = 0 → n = 0 := by
  induction f with
  | zero => intro n h _; simp at h; exact h
  | succ f ih =>
    intro n h h0
    simp only [popN] at h0
    split at h0
    · assumption
    · have := ih (n / 2) (by rw [Nat.pow_succ] at h; omega) (by omega)
      omega
theorem diffI_zero {a b : Int} (h0 : 0 ≤ a) (h1 : a ≤ 4095) (h2 : 0 ≤ b) (h3 : b ≤ 4095) : diffI a b = 0 ↔ a = b := by
  constructor
  · intro h
    have hr := xor12_range h0 h1 h2 h3
    have := popN_zero 13 (bits .xor .i64 a b).toNat (by omega) (by unfold diffI popI pop at h; omega)
    exact xor12_zero h0 h1 h2 h3 (by omega)
  · rintro rfl
    unfold diffI
    rw [xor12_self h0 h1]
    rfl
end Go.Proofs.Yteeaeomkpecflaa
