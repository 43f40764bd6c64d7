/- PocketOf; in the program and in the reference. -/
import Derived.Test.YtdppmlchabogaaaPocket
import Derived.Test.YtdppmlchabogaaaCards
import Derived.Test.YtdppmlchabogaaaPasses
import Derived.Deep.RegionHeld3
namespace Go.Proofs.Ytdppmlchabogaaa
open Go.RowKit

def pkC (xs : List Int) (a b : Int) : Int := if cardOk xs = true then (if passOk (xs.length : Int) (a, b) = true then 0 else 2) else 1
def pkV (xs : List Int) (a b : Int) : Int := if pkC xs a b = 0 then pocketI (xs.getD a.toNat 0) b else 0
theorem pk_no {xs : List Int} {a b : Int} (h : cardOk xs = false) : pkV xs a b = 0 ∧ pkC xs a b = 1 := by
  have : pkC xs a b = 1 := by unfold pkC; rw [if_neg (by simp [h])]
  refine ⟨?_, this⟩
  unfold pkV
  rw [this]
  rfl
theorem pk_two {xs : List Int} {a b : Int} (h : cardOk xs = true) (h2 : passOk (xs.length : Int) (a, b) = false) : pkV xs a b = 0 ∧ pkC xs a b = 2 := by
  have : pkC xs a b = 2 := by unfold pkC; rw [if_pos h, if_neg (by simp [h2])]
  refine ⟨?_, this⟩
  unfold pkV
  rw [this]
  rfl
theorem pk_ok {xs : List Int} {a b : Int} (h : cardOk xs = true) (h2 : passOk (xs.length : Int) (a, b) = true) : pkV xs a b = pocketI (xs.getD a.toNat 0) b ∧ pkC xs a b = 0 := by
  have : pkC xs a b = 0 := by unfold pkC; rw [if_pos h, if_pos h2]
  refine ⟨?_, this⟩
  unfold pkV
  rw [if_pos this]
theorem passOk_col {n : Nat} {a b : Int} (h : passOk (n : Int) (a, b) = true) : ∃ i : Nat, a = (i : Int) ∧ i < n := by
  simp only [passOk, Bool.and_eq_true] at h
  have := insideB_true h.1
  exact ⟨a.toNat, by omega, by omega⟩
theorem passesOk_one (cols : Int) (p : Int × Int) : passesOk cols [p] = passOk cols p := by simp [passesOk]
theorem ret_ii' {a b c d : Int} (h : a = b) (k : c = d) : Ending.returned (.tuple #[.int .i64 a, .int .i64 c]) = .returned (.tuple #[.int .i64 b, .int .i64 d]) := by rw [h, k]

set_option maxHeartbeats 4000000 in
theorem PocketOf_any (A : Option Addr) (c : Nat) (xs : List Int) (a b : Int) (w : World) (ha : Rd w w.heap.size 1 A xs.length (ints xs)) (hl : xs.length ≤ 1048576) (_hc : xs.length ≤ c) :
    Calls Try.prog 31 #[.agg #[.slice A xs.length c], .agg #[.int .i64 a, .int .i64 b]] w fun e w' => e = .returned (.tuple #[.int .i64 (pkV xs a b), .int .i64 (pkC xs a b)]) ∧ Below w.heap.size w w' := by
  have T0 : Below w.heap.size w ((w.alloc (.cells #[.slice A xs.length c] 37)).alloc (.cells #[.int .i64 a, .int .i64 b] 52)) := ba (ba (b0 _) _) _
  replace ha := (ha.a1 (.cells #[.slice A xs.length c] 37)).a1 (.cells #[.int .i64 a, .int .i64 b] 52)
  rcases Bool.eq_false_or_eq_true (cardOk xs) with h1 | h1
  · have H1 := Lib.hid h1
    rcases Bool.eq_false_or_eq_true (passOk (xs.length : Int) (a, b)) with h2 | h2
    · have HR := Lib.hid (pk_ok h1 h2)
      have hps : passesOk (xs.length : Int) [(a, b)] = true := by rw [passesOk_one, h2]
      obtain ⟨i, rfl, hi⟩ := passOk_col h2
      have HG := Lib.hid (show xs.getD (i : Int).toNat 0 = xs[i] by simp [hi])
      have g := cardOk_hole h1 hi
      clear h2
      go_enter Try.func31, Try.ntmps31
      go_wp2_with fail
      refine (ValidCard_any _ _ xs _ ha hl).mono ?_; rintro e w1 ⟨rfl, hb1⟩
      have k1 : w1.cell? ⟨w.heap.size, 0, none⟩ = some (.slice A xs.length c) := cell_later hb1 (cell_alloc (cell_new rfl rfl) _)
      have k2 : w1.cell? ⟨w.heap.size + 1, 0, none⟩ = some (.int .i64 (i : Int)) := cell_later hb1 (cell_new (by simp) rfl)
      have k3 : w1.cell? ⟨w.heap.size + 1, 1, none⟩ = some (.int .i64 b) := cell_later hb1 (cell_new (by simp) rfl)
      have r1 := ha.up hb1
      have T1 := bs T0 hb1
      clear ha T0 hb1
      go_wp2_with fail
      go_region_held3 (fun w' => w'.cell? ⟨w.heap.size, 0, none⟩ = some (.slice A xs.length c) ∧ w'.cell? ⟨w.heap.size + 1, 0, none⟩ = some (.int .i64 (i : Int)) ∧ w'.cell? ⟨w.heap.size + 1, 1, none⟩ = some (.int .i64 b)) (first | exact ⟨k1, k2, k3⟩ | exact ⟨cell_alloc k1 _, cell_alloc k2 _, cell_alloc k3 _⟩ | go_keep)
        (first
          | (go_at_call 132; refine (columns_any A xs.length c _ hl).mono ?_; rintro e w3 ⟨rfl, hb3⟩; (first | (have T3 : Below w1.heap.size w1 w3 := bs (b0 w1).drew hb3; have O3 : True := trivial) | (have T3 : Below w1.heap.size w1 w3 := (by first | exact bs (ba (b0 w1).drew (.cells #[.int .i64 (i : Int), .int .i64 b] 52)) hb3 | exact bs (ba (b0 w1) (.cells #[.int .i64 (i : Int), .int .i64 b] 52)).drew hb3); have q0 : w3.cell? ⟨w1.heap.size, 0, none⟩ = some (.int .i64 (i : Int)) := cell_later hb3 (cell_new rfl rfl); have q1 : w3.cell? ⟨w1.heap.size, 1, none⟩ = some (.int .i64 b) := cell_later hb3 (cell_new rfl rfl))); replace k1 := cell_later T3 k1; replace k2 := cell_later T3 k2; replace k3 := cell_later T3 k3; replace r1 := r1.up T3; replace T1 := bs T1 T3; clear hb3)
          | (go_at_call 138; refine (arePasses_any _ _ [((i : Int), b)] _ _ ?_ ?_ ?_ ?_).mono ?_; (first | exact rd_pair q0 q1 | exact rd_pair (cell_new rfl rfl) (cell_new rfl rfl)); (simp only [List.length_singleton]; omega); (omega); (omega); rintro e w4 ⟨rfl, hb4⟩; (first | (have T5 : Below w3.heap.size w3 w4 := hb4) | (have T5 : Below w3.heap.size w3 w4 := bs (ba (b0 w3) (.cells #[.int .i64 (i : Int), .int .i64 b] 52)) hb4)); replace k1 := cell_later T5 k1; replace k2 := cell_later T5 k2; replace k3 := cell_later T5 k3; replace r1 := r1.up T5; have T4 := bs T1 T5; clear hb4 T5 T1 T3)
        )
      all_goals
        go_wp2_with fail
        obtain ⟨bk, off, rfl, _, hcc⟩ := r1.at_ hi
        have h5 := hcc i _ (ints_get xs i hi)
        have i1 : (i : Int) < (xs.length : Int) := by omega
        clear hcc
        go_quiet ((go_at_call 140; exact quiet_l (pocketOf_any _ b g.1 g.2 _)))
        go_wp2
        go_ret2
        exact ⟨ret_ii' (by rw [HR.out.1, HG.out]) HR.out.2.symm, below_drewN T4 _⟩
    · have HR := Lib.hid (pk_two h1 h2)
      have hps : passesOk (xs.length : Int) [(a, b)] = false := by rw [passesOk_one, h2]
      clear h2
      go_enter Try.func31, Try.ntmps31
      go_wp2_with fail
      refine (ValidCard_any _ _ xs _ ha hl).mono ?_; rintro e w1 ⟨rfl, hb1⟩
      have k1 : w1.cell? ⟨w.heap.size, 0, none⟩ = some (.slice A xs.length c) := cell_later hb1 (cell_alloc (cell_new rfl rfl) _)
      have k2 : w1.cell? ⟨w.heap.size + 1, 0, none⟩ = some (.int .i64 a) := cell_later hb1 (cell_new (by simp) rfl)
      have k3 : w1.cell? ⟨w.heap.size + 1, 1, none⟩ = some (.int .i64 b) := cell_later hb1 (cell_new (by simp) rfl)
      have r1 := ha.up hb1
      have T1 := bs T0 hb1
      clear ha T0 hb1
      go_wp2_with fail
      go_region_held3 (fun w' => w'.cell? ⟨w.heap.size, 0, none⟩ = some (.slice A xs.length c) ∧ w'.cell? ⟨w.heap.size + 1, 0, none⟩ = some (.int .i64 a) ∧ w'.cell? ⟨w.heap.size + 1, 1, none⟩ = some (.int .i64 b)) (first | exact ⟨k1, k2, k3⟩ | exact ⟨cell_alloc k1 _, cell_alloc k2 _, cell_alloc k3 _⟩ | go_keep)
        (first
          | (go_at_call 132; refine (columns_any A xs.length c _ hl).mono ?_; rintro e w3 ⟨rfl, hb3⟩; (first | (have T3 : Below w1.heap.size w1 w3 := bs (b0 w1).drew hb3; have O3 : True := trivial) | (have T3 : Below w1.heap.size w1 w3 := (by first | exact bs (ba (b0 w1).drew (.cells #[.int .i64 a, .int .i64 b] 52)) hb3 | exact bs (ba (b0 w1) (.cells #[.int .i64 a, .int .i64 b] 52)).drew hb3); have q0 : w3.cell? ⟨w1.heap.size, 0, none⟩ = some (.int .i64 a) := cell_later hb3 (cell_new rfl rfl); have q1 : w3.cell? ⟨w1.heap.size, 1, none⟩ = some (.int .i64 b) := cell_later hb3 (cell_new rfl rfl))); replace k1 := cell_later T3 k1; replace k2 := cell_later T3 k2; replace k3 := cell_later T3 k3; replace r1 := r1.up T3; replace T1 := bs T1 T3; clear hb3)
          | (go_at_call 138; refine (arePasses_any _ _ [(a, b)] _ _ ?_ ?_ ?_ ?_).mono ?_; (first | exact rd_pair q0 q1 | exact rd_pair (cell_new rfl rfl) (cell_new rfl rfl)); (simp only [List.length_singleton]; omega); (omega); (omega); rintro e w4 ⟨rfl, hb4⟩; (first | (have T5 : Below w3.heap.size w3 w4 := hb4) | (have T5 : Below w3.heap.size w3 w4 := bs (ba (b0 w3) (.cells #[.int .i64 a, .int .i64 b] 52)) hb4)); replace k1 := cell_later T5 k1; replace k2 := cell_later T5 k2; replace k3 := cell_later T5 k3; replace r1 := r1.up T5; have T4 := bs T1 T5; clear hb4 T5 T1 T3)
        )
      all_goals
        go_wp2
        go_ret2
        exact ⟨ret_ii' HR.out.1.symm HR.out.2.symm, T4⟩
  · have HR := Lib.hid (pk_no (a := a) (b := b) h1)
    go_enter Try.func31, Try.ntmps31
    go_wp2_with fail
    refine (ValidCard_any _ _ xs _ ha hl).mono ?_; rintro e w1 ⟨rfl, hb1⟩
    go_wp2
    go_ret2
    exact ⟨ret_ii' HR.out.1.symm HR.out.2.symm, bs T0 hb1⟩
end Go.Proofs.Ytdppmlchabogaaa
