/- The count of holes; in the program and in the reference. -/
import Derived.Test.YtoakjfoioijaaaaBasics
import Derived.Test.YtoakjfoioijaaaaBits
namespace Go.Proofs.Ytoakjfoioijaaaa
open Go.RowKit

def onesA (n : Int) : Int := IntKind.u64.wrap (bits BinOp.and IntKind.u64 (n / 2) 6148914691236517205 + bits BinOp.and IntKind.u64 n 6148914691236517205)
def onesB (a : Int) : Int := IntKind.u64.wrap (bits BinOp.and IntKind.u64 (a / 4) 3689348814741910323 + bits BinOp.and IntKind.u64 a 3689348814741910323)
def onesC (b : Int) : Int := bits BinOp.and IntKind.u64 (IntKind.u64.wrap (b / 16 + b)) 1085102592571150095
def onesD (c : Int) : Int := IntKind.u64.wrap (c + c / 256)
def onesE (d : Int) : Int := IntKind.u64.wrap (d + d / 65536)
def onesF (e : Int) : Int := IntKind.u64.wrap (e + e / 4294967296)
def onesG (f : Int) : Int := bits BinOp.and IntKind.i64 (wrap64 f) 127
def onesZ (n : Int) : Int := onesG (onesF (onesE (onesD (onesC (onesB (onesA n))))))

/-- The number of the bits of a number. -/
def popN : Nat → Nat → Nat
  | 0, _ => 0
  | f + 1, n => if n = 0 then 0 else n % 2 + popN f (n / 2)
def pop (n : Nat) : Nat := popN 13 n
theorem onesZ_fin : ∀ a b : Fin 64, onesZ ((64 * a.val + b.val : Nat) : Int) = ((pop (64 * a.val + b.val) : Nat) : Int) := by decide +kernel
theorem onesZ_all (n : Nat) (h : n ≤ 4095) : onesZ (n : Int) = (pop n : Int) := by
  have := onesZ_fin ⟨n / 64, by omega⟩ ⟨n % 64, by omega⟩
  simp only [Nat.div_add_mod] at this
  exact this

theorem ones64_any (n : Nat) (h : n ≤ 4095) (w : World) :
    Calls Try.prog 147 #[.int .u64 n] w fun e w' => e = .returned (.int .i64 (pop n)) ∧ w = w' := by
  have HZ := Lib.hid (onesZ_all n h)
  go_enter Try.func147, Try.ntmps147
  go_wp2
  go_ret
  exact ⟨ret_int HZ.out, rfl⟩

theorem onesOf_any (n : Nat) (h : n ≤ 4095) (w : World) :
    Calls Try.prog 124 #[.int .i64 n] w fun e w' => e = .returned (.int .i64 (pop n)) ∧ w = w' := by
  go_enter Try.func124, Try.ntmps124
  go_wp2_with fail
  refine (ones64_any n h _).mono ?_; rintro e w1 ⟨rfl, rfl⟩
  go_wp2
  go_ret
  exact ⟨rfl, rfl⟩

theorem popN_lt (f : Nat) : ∀ n, n < 2 ^ f → popN f n ≤ f := by
  induction f with
  | zero => intro n _; simp [popN]
  | succ f ih =>
    intro n h
    simp only [popN]
    split
    · omega
    · have := ih (n / 2) (by rw [Nat.pow_succ] at h; omega)
      omega
theorem pop_le (n : Nat) (h : n ≤ 4095) : pop n ≤ 13 := popN_lt 13 n (by omega)
theorem popN_more (f : Nat) : ∀ n, n < 2 ^ f → popN (f + 1) n = popN f n := by
  induction f with
  | zero => intro n h; have : n = 0 := by simp at h; exact h
            subst this; simp [popN]
  | succ f ih =>
    intro n h
    rw [popN]
    conv => rhs; rw [popN]
    split
    · rfl
    · rw [ih (n / 2) (by rw [Nat.pow_succ] at h; omega)]

set_option maxHeartbeats 1000000 in
theorem l02Count_any (m : Nat) (h : m ≤ 4095) (w : World) :
    Calls Try.prog 121 #[.int .i64 m] w fun e w' => e = .returned (.int .i64 (pop m)) ∧ w = w' := by
  go_enter Try.func121, Try.ntmps121
  go_wp2
  go_loop [0, 3] (fun q s => ∃ x y f : Nat, x ≤ 4095 ∧ f ≤ 13 ∧ x < 2 ^ f ∧ y ≤ 13 - f ∧ q = .int .i64 x ∧ s = .int .i64 y ∧ y + popN f x = pop m) (fun q _ => (intOf q).toNat)
  case atStart => exact ⟨m, 0, 13, h, by omega, by omega, by omega, rfl, rfl, by simp [pop]⟩
  case round =>
    obtain ⟨x, y, f, hx, hf, hxf, hy, rfl, rfl, hp⟩ := hrel
    by_cases h0 : 0 < x
    · obtain ⟨f', rfl⟩ : ∃ f', f = f' + 1 := ⟨f - 1, by cases f with | zero => simp at hxf; omega | succ f => omega⟩
      have HP := Lib.hid (show y + x % 2 + popN f' (x / 2) = pop m by rw [← hp]; simp only [popN, if_neg (show ¬ x = 0 by omega)]; omega)
      have HX := Lib.hid (show x / 2 < 2 ^ f' by rw [Nat.pow_succ] at hxf; omega)
      clear hp hxf
      go_wp2
      go_round
      case rel => exact ⟨x / 2, y + x % 2, f', by omega, by omega, HX.out, by omega, by go_num, by go_num, HP.out⟩
      case measure => simp [intOf]; omega
    · obtain rfl : x = 0 := by omega
      have HP := Lib.hid (show y = pop m by rw [← hp]; cases f <;> simp [popN])
      go_wp2
      go_ret
      exact ⟨ret_int (by rw [HP.out]), rfl⟩

/-- The number of holes of a column's number; the number of places in which two columns differ. -/
def popI (v : Int) : Int := (pop v.toNat : Int)
def diffI (a b : Int) : Int := popI (bits .xor .i64 a b)
theorem onesOf_int (v : Int) (h0 : 0 ≤ v) (h1 : v ≤ 4095) (w : World) :
    Calls Try.prog 124 #[.int .i64 v] w fun e w' => e = .returned (.int .i64 (popI v)) ∧ w = w' := by
  obtain ⟨n, rfl⟩ := Int.eq_ofNat_of_zero_le h0
  exact onesOf_any n (by omega) w
theorem l02Count_int (v : Int) (h0 : 0 ≤ v) (h1 : v ≤ 4095) (w : World) :
    Calls Try.prog 121 #[.int .i64 v] w fun e w' => e = .returned (.int .i64 (popI v)) ∧ w = w' := by
  obtain ⟨n, rfl⟩ := Int.eq_ofNat_of_zero_le h0
  exact l02Count_any n (by omega) w
theorem popI_range {v : Int} (h0 : 0 ≤ v) (h1 : v ≤ 4095) : 0 ≤ popI v ∧ popI v ≤ 12 := by
  have h := popN_lt 12 v.toNat (by omega)
  have h2 : popN 13 v.toNat = popN 12 v.toNat := popN_more 12 v.toNat (by omega)
  unfold popI pop
  omega
theorem diffI_range {a b : Int} (h0 : 0 ≤ a) (h1 : a ≤ 4095) (h2 : 0 ≤ b) (h3 : b ≤ 4095) : 0 ≤ diffI a b ∧ diffI a b ≤ 12 := by
  have := xor12_range h0 h1 h2 h3
  exact popI_range this.1 this.2
theorem diffI_comm {a b : Int} (h0 : 0 ≤ a) (h1 : a ≤ 4095) (h2 : 0 ≤ b) (h3 : b ≤ 4095) : diffI a b = diffI b a := by
  unfold diffI
  rw [xor12_comm h0 h1 h2 h3]
theorem popN_zero (f : Nat) : ∀ n, n < 2 ^ f → popN f n = 0 → n = 0 := by
  induction f with
  | zero => intro n h _; simp at h; exact h
  | succ f ih =>
    intro n h h0
    simp only [popN] at h0
    split at h0
    · assumption
    · have := ih (n / 2) (by rw [Nat.pow_succ] at h; omega) (by omega)
      omega
theorem diffI_zero {a b : Int} (h0 : 0 ≤ a) (h1 : a ≤ 4095) (h2 : 0 ≤ b) (h3 : b ≤ 4095) : diffI a b = 0 ↔ a = b := by
  constructor
  · intro h
    have hr := xor12_range h0 h1 h2 h3
    have := popN_zero 13 (bits .xor .i64 a b).toNat (by omega) (by unfold diffI popI pop at h; omega)
    exact xor12_zero h0 h1 h2 h3 (by omega)
  · rintro rfl
    unfold diffI
    rw [xor12_self h0 h1]
    rfl
end Go.Proofs.Ytoakjfoioijaaaa
