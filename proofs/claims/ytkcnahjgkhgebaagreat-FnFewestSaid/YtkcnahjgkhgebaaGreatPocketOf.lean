/- PocketOf; in the program and in the reference. -/
import Derived.Test.YtkcnahjgkhgebaaGreatPocket
import Derived.Test.YtkcnahjgkhgebaaGreatCards
import Derived.Test.YtkcnahjgkhgebaaGreatPasses
import Derived.Deep.RegionHeld3
namespace Go.Proofs.YtkcnahjgkhgebaaGreat
open Go.RowKit

def pkC (xs : List Int) (a b : Int) : Int := if cardOk xs = true then (if passOk (xs.length : Int) (a, b) = true then 0 else 2) else 1
def pkV (xs : List Int) (a b : Int) : Int := if pkC xs a b = 0 then pocketI (xs.getD a.toNat 0) b else 0
theorem pk_no {xs : List Int} {a b : Int} (h : cardOk xs = false) : pkV xs a b = 0 ∧ pkC xs a b = 1 := by
  have : pkC xs a b = 1 := by unfold pkC; rw [if_neg (by simp [h])]
  refine ⟨?_, this⟩
  unfold pkV
  rw [this]
  rfl
theorem pk_two {xs : List Int} {a b : Int} (h : cardOk xs = true) (h2 : passOk (xs.length : Int) (a, b) = false) : pkV xs a b = 0 ∧ pkC xs a b = 2 := by
  have : pkC xs a b = 2 := by unfold pkC; rw [if_pos h, if_neg (by simp [h2])]
  refine ⟨?_, this⟩
  unfold pkV
  rw [this]
  rfl
theorem pk_ok {xs : List Int} {a b : Int} (h : cardOk xs = true) (h2 : passOk (xs.length : Int) (a, b) = true) : pkV xs a b = pocketI (xs.getD a.toNat 0) b ∧ pkC xs a b = 0 := by
  have : pkC xs a b = 0 := by unfold pkC; rw [if_pos h, if_pos h2]
  refine ⟨?_, this⟩
  unfold pkV
  rw [if_pos this]
theorem passOk_col {n : Nat} {a b : Int} (h : passOk (n : Int) (a, b) = true) : ∃ i : Nat, a = (i : Int) ∧ i < n := by
  simp only [passOk, Bool.and_eq_true] at h
  have := insideB_true h.1
  exact ⟨a.toNat, by omega, by omega⟩
theorem passesOk_one (cols : Int) (p : Int × Int) : passesOk cols [p] = passOk cols p := by simp [passesOk]
theorem ret_ii' {a b c d : Int} (h : a = b) (k : c = d) : Ending.returned (.tuple #[.int .i64 a, .int .i64 c]) = .returned (.tuple #[.int .i64 b, .int .i64 d]) := by rw [h, k]

set_option maxHeartbeats 1000000 in
theorem l07Pocket_any (p q : Nat) (A : Option Addr) (c i : Nat) (xs : List Int) (b : Int) (w : World) (hp : w.cell? ⟨p, q, none⟩ = some (.slice A xs.length c)) (ha : Rd w w.heap.size 1 A xs.length (ints xs)) (hx : cardOk xs = true) (hi : i < xs.length) :
    Calls Tryz.prog 78 #[.pointer (some ⟨p, q, none⟩), .agg #[.int .i64 (i : Int), .int .i64 b]] w fun e w' => e = .returned (.int .i64 (pocketI xs[i] b)) ∧ Below w.heap.size w w' := by
  have g := cardOk_hole hx hi
  have hl := (cardOk_len hx).2
  have hp1 := cell_alloc hp (.cells #[.int .i64 (i : Int), .int .i64 b] 46)
  obtain ⟨bk, off, rfl, _, hc⟩ := (ha.a1 (.cells #[.int .i64 (i : Int), .int .i64 b] 46)).at_ hi
  have h1 := hc i _ (ints_get xs i hi)
  have i1 : (i : Int) < (xs.length : Int) := by omega
  clear hc ha
  by_cases hm : b = 1
  · subst hm
    go_enter Tryz.func78, Tryz.ntmps78
    go_wp2_with fail
    go_quiet ((go_at_call 106; exact quiet_l (l07Digits_any _ g.1 g.2 _)))
    go_wp2
    go_ret
    exact ⟨rfl, below_drewN (ba (b0 _) _) _⟩
  · have hmm : (b == 1) = false := by simpa using hm
    have HM := Lib.hid hm
    clear hm
    go_enter Tryz.func78, Tryz.ntmps78
    go_wp2_with fail
    go_quiet ((go_at_call 107; exact quiet_l (l07Zones_any _ b HM.out g.1 g.2 _)))
    go_wp2
    go_ret
    exact ⟨rfl, below_drewN (ba (b0 _) _) _⟩

end Go.Proofs.YtkcnahjgkhgebaaGreat
