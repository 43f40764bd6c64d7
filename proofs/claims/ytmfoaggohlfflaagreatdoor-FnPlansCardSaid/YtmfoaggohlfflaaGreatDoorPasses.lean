/- Are passes ones of so many columns? In the program (arePasses) and in the reference (l07Pass, l08Passes); HandledCards. -/
import Derived.Test.YtmfoaggohlfflaaGreatDoorBasics
import Derived.Test.YtmfoaggohlfflaaGreatDoorFuncsPass
namespace Go.Proofs.YtmfoaggohlfflaaGreatDoor
open Go.RowKit

def modeB (m : Int) : Bool := decide (m = 1) || decide (m = 2)
theorem modeB_true {m : Int} (h : modeB m = true) : m = 1 ∨ m = 2 := by simpa [modeB] using h
def passOk (cols : Int) (p : Int × Int) : Bool := insideB p.1 0 (cols - 1) && modeB p.2
def passesOk (cols : Int) (ps : List (Int × Int)) : Bool := decide (ps.length ≤ 40) && ps.all (passOk cols)

theorem isMode_any (m : Int) (w : World) :
    Calls Tryz.prog 52 #[.int .i64 m] w fun e w' => e = .returned (.bool (modeB m)) ∧ w = w' := by
  by_cases h0 : m = 1
  · subst h0
    go_enter Tryz.func52, Tryz.ntmps52
    go_wp2
    go_ret
    exact ⟨ret_bool (by simp [modeB]), rfl⟩
  · by_cases h1 : m = 2
    · subst h1
      go_enter Tryz.func52, Tryz.ntmps52
      go_wp2
      go_ret
      exact ⟨ret_bool (by simp [modeB]), rfl⟩
    · have g0 : (m == 1) = false := by simpa using h0
      have g1 : (m == 2) = false := by simpa using h1
      go_enter Tryz.func52, Tryz.ntmps52
      go_wp2
      go_ret
      exact ⟨ret_bool (by simp [modeB, h0, h1]), rfl⟩
set_option maxHeartbeats 400000 in
theorem arePasses1_any (a b cols : Int) (bx : Nat) (w : World) (hbx : w.cell? ⟨bx, 0, none⟩ = some (.int .i64 cols)) (h0 : 0 ≤ cols) (h1 : cols ≤ 1048576) :
    Calls Tryz.prog 99 #[.agg #[.int .i64 a, .int .i64 b], .pointer (some ⟨bx, 0, none⟩)] w fun e w' => e = .returned (.bool (!passOk cols (a, b))) ∧ Below w.heap.size w w' := by
  have hlt := World.block_lt_of_cell? _ _ hbx
  simp only at hlt
  have hc0 : (w.alloc (.cells #[.int .i64 a, .int .i64 b] 76)).cell? ⟨bx, 0, none⟩ = some (.int .i64 cols) := by rw [World.cell?_alloc_lt _ _ _ hlt, hbx]
  have hp := Lib.hid (show passOk cols (a, b) = (insideB a 0 (cols - 1) && modeB b) from rfl)
  rcases Bool.eq_false_or_eq_true (insideB a 0 (cols - 1)) with hi | hi
  · go_enter Tryz.func99, Tryz.ntmps99
    go_wp2_with fail
    refine (inside_any _ _ _ _).mono ?_; rintro e w1 ⟨rfl, rfl⟩
    go_wp2_with fail
    refine (isMode_any _ _).mono ?_; rintro e w1 ⟨rfl, rfl⟩
    go_wp2
    go_ret
    exact ⟨ret_bool (by rw [hp.out, hi]; rfl), ba (b0 _) _⟩
  · go_enter Tryz.func99, Tryz.ntmps99
    go_wp2_with fail
    refine (inside_any _ _ _ _).mono ?_; rintro e w1 ⟨rfl, rfl⟩
    go_wp2
    go_ret
    exact ⟨ret_bool (by rw [hp.out, hi]; rfl), ba (b0 _) _⟩
theorem any_not_all {α : Type} (p : α → Bool) (l : List α) : (l.any fun x => !p x) = !l.all p := by
  induction l with
  | nil => rfl
  | cons a l ih => simp [ih]

set_option maxHeartbeats 400000 in
theorem arePasses_any (A : Option Addr) (c : Nat) (ps : List (Int × Int)) (cols : Int) (w : World) (ha : Rd w w.heap.size 2 A ps.length (prs ps)) (hl : ps.length ≤ 1048576) (h0 : 0 ≤ cols) (h1 : cols ≤ 1048576) :
    Calls Tryz.prog 41 #[.slice A ps.length c, .int .i64 cols] w fun e w' => e = .returned (.bool (passesOk cols ps)) ∧ Below w.heap.size w w' := by
  have hall := Lib.hid (any_not_all (passOk cols) ps)
  have hcon := Lib.hid (ContainsFuncPass_any A c ps 99 #[.pointer (some ⟨w.heap.size, 0, none⟩)] (fun p => !passOk cols p) (w.alloc (.cells #[.int .i64 cols] 2)) (ha.a1 _) hl Tryz.call99
    (fun p _ w' hb => arePasses1_any p.1 p.2 cols _ w' (cell_later hb (by simp)) h0 h1))
  by_cases h40 : ps.length ≤ 40
  · have hp := Lib.hid (show passesOk cols ps = ps.all (passOk cols) by simp [passesOk, h40])
    go_enter Tryz.func41, Tryz.ntmps41
    go_wp2_with fail
    refine hcon.out.mono ?_; rintro e w1 ⟨rfl, hb1⟩
    go_wp2
    go_ret
    exact ⟨ret_bool (by rw [hall.out, hp.out]; simp), bs (ba (b0 _) _) hb1⟩
  · have hp := Lib.hid (show passesOk cols ps = false by simp [passesOk, h40])
    clear hcon
    go_enter Tryz.func41, Tryz.ntmps41
    go_wp2
    go_ret
    exact ⟨ret_bool hp.out.symm, ba (b0 _) _⟩

/-- HandledCards: is there an answer? -/
def handledOk (n : Int) (ps : List (Int × Int)) : Bool := insideB n 0 1000000 && passesOk 20 ps
def handledRes (n : Int) (ps : List (Int × Int)) : Int := if handledOk n ps = true then n * (ps.length : Int) else 0
def handledCode (n : Int) (ps : List (Int × Int)) : Int := if handledOk n ps = true then 0 else 2
theorem passesOk_len {cols : Int} {ps : List (Int × Int)} (h : passesOk cols ps = true) : ps.length ≤ 40 := by
  simp [passesOk] at h
  exact h.1
theorem mul_bounds {n m : Int} (h0 : 0 ≤ n) (h1 : n ≤ 1000000) (h2 : 0 ≤ m) (h3 : m ≤ 40) : 0 ≤ n * m ∧ n * m ≤ 40000000 :=
  ⟨Int.mul_nonneg h0 h2, by have := Int.mul_le_mul h1 h3 h2 (by omega); omega⟩

end Go.Proofs.YtmfoaggohlfflaaGreatDoor
