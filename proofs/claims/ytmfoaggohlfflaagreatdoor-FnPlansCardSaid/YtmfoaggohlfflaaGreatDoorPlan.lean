/- FullPlan and what it calls, in the program and in the reference: both give the passes of the columns from the last down to the first. -/
import Derived.Test.YtmfoaggohlfflaaGreatDoorHarnPass
namespace Go.Proofs.YtmfoaggohlfflaaGreatDoor
open Go.RowKit

/-- Is a field one of so many columns? -/
def fieldOk (a b n : Int) : Bool := decide (0 ≤ a) && (decide (a < b) && decide (b ≤ n))
theorem fieldOk_true {a b n : Int} (h : fieldOk a b n = true) : 0 ≤ a ∧ a < b ∧ b ≤ n := by simpa [fieldOk] using h
theorem fieldOk_mk {a b n : Int} (h0 : 0 ≤ a) (h1 : a < b) (h2 : b ≤ n) : fieldOk a b n = true := by simp [fieldOk, *]


set_option maxHeartbeats 400000 in
theorem isField_any (a b n : Int) (w : World) :
    Calls Tryz.prog 39 #[.agg #[.int .i64 a, .int .i64 b], .int .i64 n] w fun e w' => e = .returned (.bool (fieldOk a b n)) ∧ Below w.heap.size w w' := by
  by_cases h0 : 0 ≤ a <;> by_cases h1 : a < b <;> by_cases h2 : b ≤ n
  all_goals
    go_enter Tryz.func39, Tryz.ntmps39
    go_wp2
    go_ret
    exact ⟨ret_bool (by simp [fieldOk, *]), ba (b0 _) _⟩

/-- The passes of the columns b-1, b-2, .. : j columns. -/
def planOf (b : Int) (j : Nat) : List (Int × Int) := (List.range j).flatMap fun i : Nat => [(b - 1 - (i : Int), 1), (b - 1 - (i : Int), 2)]
theorem planOf_succ (b : Int) (j : Nat) : planOf b (j + 1) = planOf b j ++ [(b - 1 - (j : Int), 1), (b - 1 - (j : Int), 2)] := by
  simp [planOf, List.range_succ, List.flatMap_append]
theorem planOf_length (b : Int) (j : Nat) : (planOf b j).length = 2 * j := by
  induction j with
  | zero => rfl
  | succ j ih => rw [planOf_succ, List.length_append, ih]; simp; omega

set_option maxHeartbeats 400000 in
theorem fullPlan_any (a b : Int) (w : World) (h0 : 0 ≤ a) (h1 : a < b) (h2 : b ≤ 20) :
    Calls Tryz.prog 40 #[.agg #[.int .i64 a, .int .i64 b]] w fun e w' => ∃ A c, e = .returned (.slice A (planOf b (b - a).toNat).length c) ∧
      w'.ownsRow w.heap.size 76 2 (.slice A (planOf b (b - a).toNat).length c) (planOf b (b - a).toNat).length (prs (planOf b (b - a).toNat)) ∧ Below w.heap.size w w' := by
  obtain ⟨i0, hi, hz0, hz1, hz2⟩ := info_parts info_iPass
  go_enter Tryz.func40, Tryz.ntmps40
  go_wp2
  go_loopw [3, 4] (fun v q wr => ∃ (j : Nat) (A : Option Addr) (n c : Nat), j ≤ (b - a).toNat ∧ q = .int .i64 (b - 1 - j) ∧ v = .slice A n c ∧ n = (planOf b j).length ∧ wr.ownsRow (w.heap.size + 1) 76 2 (.slice A n c) n (prs (planOf b j)) ∧ Below (w.heap.size + 1) (w.alloc (.cells #[.int .i64 a, .int .i64 b] 27)) wr)
    (fun _ q _ => (intOf q + 1).toNat)
  case atStart => exact ⟨0, _, 0, 0, Nat.zero_le _, by go_num, rfl, rfl, own_lit _ #[] 0 (by simp) (by simp) (by omega) rfl, (Below.refl _ _).alloc (by simp) _⟩
  case round =>
    obtain ⟨j, A, n, c, hj, rfl, rfl, hn, hown, hbw⟩ := hrel
    have hn2 : n ≤ 40 := by rw [hn, planOf_length]; omega
    have HN := Lib.hid hn
    clear hn
    have hsz := hbw.size
    simp only [World.size_alloc] at hsz
    have hc0 := hbw.cell (p := ⟨w.heap.size, 0, none⟩) (by simp)
    have hc1 := hbw.cell (p := ⟨w.heap.size, 1, none⟩) (by simp)
    by_cases hlt : j < (b - a).toNat
    · have h3 : a ≤ b - 1 - (j : Int) := by omega
      go_wp2_with (at_builtin; refine wpList_ap rfl (.tmp 15) (.tmp 20) 29 rfl (w.heap.size + 1) 76 i0 _ 2 16 Tryz.underlying29 hi hz0 hz1 hz2 rfl (by omega) A n c _ rfl wr hown 2 _ _ rfl rfl rfl (prs_one [(b - 1 - (j : Int), 1), (b - 1 - (j : Int), 2)]) (by omega) (by omega) (by omega) (by omega) ?_; intro g cap w1 hown1 hb1 _ _ _)
      go_roundw
      case rel => exact ⟨j + 1, _, _, _, by omega, by go_num, rfl, by rw [HN.out, planOf_succ, List.length_append]; rfl, by rw [planOf_succ, prs_append]; exact hown1, hbw.trans hb1⟩
      case measure => simp [intOf]; omega
    · have h3 : ¬ (a ≤ b - 1 - (j : Int)) := by omega
      have hke := Lib.hid (show (b - a).toNat = j by omega)
      clear hlt hn2
      go_wp2
      go_ret
      have hn := HN.out
      subst hn
      rw [hke.out]
      exact ⟨A, c, rfl, own_base hown (by omega), bs (ba (b0 _) _) (hbw.mono (by simp))⟩

def fullRes (a b : Int) : List (Int × Int) := if fieldOk a b 20 = true then planOf b (b - a).toNat else []
def fullCode (a b : Int) : Int := if fieldOk a b 20 = true then 0 else 2
theorem fullRes_length (a b : Int) : (fullRes a b).length ≤ 40 := by
  unfold fullRes
  split
  · rename_i h
    have := fieldOk_true h
    rw [planOf_length]
    omega
  · simp

set_option maxHeartbeats 400000 in
theorem FullPlan_any (a b : Int) (w : World) :
    Calls Tryz.prog 8 #[.agg #[.int .i64 a, .int .i64 b]] w fun e w' => ∃ A c, e = .returned (.tuple #[.slice A (fullRes a b).length c, .int .i64 (fullCode a b)]) ∧
      w'.ownsRow w.heap.size 76 2 (.slice A (fullRes a b).length c) (fullRes a b).length (prs (fullRes a b)) ∧ Below w.heap.size w w' := by
  by_cases hf : fieldOk a b 20 = true
  · obtain ⟨h0, h1, h2⟩ := fieldOk_true hf
    have hr := Lib.hid (show fullRes a b = planOf b (b - a).toNat by unfold fullRes; rw [if_pos hf])
    have hc := Lib.hid (show fullCode a b = 0 by unfold fullCode; rw [if_pos hf])
    go_enter Tryz.func8, Tryz.ntmps8
    go_wp2_with fail
    refine (isField_any _ _ _ _).mono ?_; rintro e w1 ⟨rfl, hb1⟩
    have hc0 := hb1.cell (p := ⟨w.heap.size, 0, none⟩) (by simp)
    have hc1 := hb1.cell (p := ⟨w.heap.size, 1, none⟩) (by simp)
    go_wp2_with fail
    refine (fullPlan_any a b _ h0 h1 h2).mono ?_; rintro e w2 ⟨A, c, rfl, ho, hb2⟩
    have hz := hb1.size
    simp only [World.size_alloc] at hz
    go_wp2
    go_ret2
    rw [hr.out, hc.out]
    exact ⟨A, c, rfl, own_base ho (by omega), bs (bs (ba (b0 _) _) hb1) hb2⟩
  · have hff : fieldOk a b 20 = false := by simpa using hf
    have hr := Lib.hid (show fullRes a b = [] by unfold fullRes; rw [if_neg hf])
    have hc := Lib.hid (show fullCode a b = 2 by unfold fullCode; rw [if_neg hf])
    go_enter Tryz.func8, Tryz.ntmps8
    go_wp2_with fail
    refine (isField_any _ _ _ _).mono ?_; rintro e w1 ⟨rfl, hb1⟩
    go_wp2
    go_ret2
    rw [hr.out, hc.out]
    exact ⟨none, 0, rfl, World.ownsRow_nil _ _ _ _, bs (ba (b0 _) _) hb1⟩

end Go.Proofs.YtmfoaggohlfflaaGreatDoor
