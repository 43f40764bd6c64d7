/- DigitPlan in the program and in the reference. -/
import Derived.Test.YtmfoaggohlfflaaGreatDoorPlan
import Derived.Test.YtmfoaggohlfflaaGreatDoorDelPass
namespace Go.Proofs.YtmfoaggohlfflaaGreatDoor
open Go.RowKit

def digitsOf (b : Int) (j : Nat) : List (Int × Int) := (List.range j).map fun i : Nat => (b - 1 - (i : Int), 1)
theorem digitsOf_succ (b : Int) (j : Nat) : digitsOf b (j + 1) = digitsOf b j ++ [(b - 1 - (j : Int), 1)] := by simp [digitsOf, List.range_succ]
theorem digitsOf_length (b : Int) (j : Nat) : (digitsOf b j).length = j := by simp [digitsOf]
def zoneB (p : Int × Int) : Bool := p.2 == 2
theorem keep_plan (b : Int) (j : Nat) : keep zoneB (planOf b j) = digitsOf b j := by
  induction j with
  | zero => rfl
  | succ j ih =>
    rw [planOf_succ, digitsOf_succ, ← ih]
    simp [keep, zoneB]
def digRes (a b : Int) : List (Int × Int) := if fieldOk a b 20 = true then digitsOf b (b - a).toNat else []
def digCode (a b : Int) : Int := if fieldOk a b 20 = true then 0 else 2
theorem digRes_length (a b : Int) : (digRes a b).length ≤ 40 := by
  unfold digRes
  split
  · rename_i h
    have := fieldOk_true h
    rw [digitsOf_length]
    omega
  · simp

theorem DigitPlan1_any (a b : Int) (w : World) :
    Calls Tryz.prog 51 #[.agg #[.int .i64 a, .int .i64 b]] w fun e w' => e = .returned (.bool (zoneB (a, b))) ∧ Below w.heap.size w w' := by
  go_enter Tryz.func51, Tryz.ntmps51
  go_wp2
  go_ret
  exact ⟨rfl, ba (b0 _) _⟩

set_option maxHeartbeats 1000000 in
theorem DigitPlan_any (a b : Int) (w : World) :
    Calls Tryz.prog 13 #[.agg #[.int .i64 a, .int .i64 b]] w fun e w' => ∃ A c, e = .returned (.tuple #[.slice A (digRes a b).length c, .int .i64 (digCode a b)]) ∧
      w'.ownsRow w.heap.size 76 2 (.slice A (digRes a b).length c) (digRes a b).length (prs (digRes a b)) ∧ Below w.heap.size w w' := by
  by_cases hf : fieldOk a b 20 = true
  · obtain ⟨h0, h1, h2⟩ := fieldOk_true hf
    have hpl : (planOf b (b - a).toNat).length ≤ 40 := by rw [planOf_length]; omega
    have hr := Lib.hid (show digRes a b = keep zoneB (planOf b (b - a).toNat) by unfold digRes; rw [if_pos hf, keep_plan])
    have hc := Lib.hid (show digCode a b = 0 by unfold digCode; rw [if_pos hf])
    go_enter Tryz.func13, Tryz.ntmps13
    go_wp2_with fail
    refine (isField_any _ _ _ _).mono ?_; rintro e w1 ⟨rfl, hb1⟩
    have hc0 := hb1.cell (p := ⟨w.heap.size, 0, none⟩) (by simp)
    have hc1 := hb1.cell (p := ⟨w.heap.size, 1, none⟩) (by simp)
    go_wp2_with fail
    refine (fullPlan_any a b _ h0 h1 h2).mono ?_; rintro e w2 ⟨A, c, rfl, ho, hb2⟩
    have hz := hb1.size
    simp only [World.size_alloc] at hz
    have hz2 := hb2.size
    go_wp2_with fail
    refine (DeleteFuncPass_any A c _ (planOf b (b - a).toNat) 51 #[] zoneB _ ho hb2.size (by omega) Tryz.call51
      (fun p _ w' _ => by rw [Array.append_empty]; exact DigitPlan1_any p.1 p.2 w')).mono ?_; rintro e w3 ⟨rfl, ho3, hb3⟩
    go_wp2
    go_ret2
    rw [hr.out, hc.out]
    exact ⟨A, c, rfl, own_base ho3 (by omega), (bs (bs (ba (b0 _) _) hb1) hb2).trans (hb3.mono (by omega))⟩
  · have hff : fieldOk a b 20 = false := by simpa using hf
    have hr := Lib.hid (show digRes a b = [] by unfold digRes; rw [if_neg hf])
    have hc := Lib.hid (show digCode a b = 2 by unfold digCode; rw [if_neg hf])
    go_enter Tryz.func13, Tryz.ntmps13
    go_wp2_with fail
    refine (isField_any _ _ _ _).mono ?_; rintro e w1 ⟨rfl, hb1⟩
    go_wp2
    go_ret2
    rw [hr.out, hc.out]
    exact ⟨none, 0, rfl, World.ownsRow_nil _ _ _ _, bs (ba (b0 _) _) hb1⟩

end Go.Proofs.YtmfoaggohlfflaaGreatDoor
