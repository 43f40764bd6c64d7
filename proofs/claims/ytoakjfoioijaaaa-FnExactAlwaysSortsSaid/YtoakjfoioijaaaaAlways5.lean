/- AlwaysSorts: the calls, in the program and in the reference. -/
import Derived.Test.YtoakjfoioijaaaaAlways4
namespace Go.Proofs.Ytoakjfoioijaaaa
open Go.RowKit

theorem fld_nat {a b : Int} (h : fieldOk a b 20 = true) : ∃ i j : Nat, a = (i : Int) ∧ b = (j : Int) ∧ i < j ∧ j ≤ 20 := by
  have h1 := fieldOk_true h
  exact ⟨a.toNat, b.toNat, by omega, by omega, by omega, by omega⟩

set_option maxHeartbeats 2000000 in
theorem AlwaysSorts_any (a b : Int) (A : Option Addr) (c : Nat) (ps : List (Int × Int)) (w : World) (ha : Rd w w.heap.size 2 A ps.length (prs ps)) (hl : ps.length ≤ 1048576) :
    Calls Try.prog 40 #[.agg #[.int .i64 a, .int .i64 b], .slice A ps.length c] w fun e w' => e = .returned (.tuple #[.bool (alwR ps a b), .int .i64 (alwC ps a b)]) ∧ Below w.heap.size w w' := by
  have T0 : Below w.heap.size w (w.alloc (.cells #[.int .i64 a, .int .i64 b] 60)) := ba (b0 w) _
  have ra := ha.a1 (.cells #[.int .i64 a, .int .i64 b] 60)
  have p0 : (w.alloc (.cells #[.int .i64 a, .int .i64 b] 60)).cell? ⟨w.heap.size, 0, none⟩ = some (.int .i64 a) := cell_new rfl rfl
  have p1 : (w.alloc (.cells #[.int .i64 a, .int .i64 b] 60)).cell? ⟨w.heap.size, 1, none⟩ = some (.int .i64 b) := cell_new rfl rfl
  rcases Bool.eq_false_or_eq_true (fieldOk a b 20) with hf | hf
  · rcases Bool.eq_false_or_eq_true (passesOk 20 ps) with hp | hp
    · have HC := Lib.hid (alwC_0 hf hp)
      have HR := Lib.hid (alwR_0 HC.out)
      have HM := Lib.hid (passesOk_modes hp)
      have HF := Lib.hid hf
      have HP := Lib.hid hp
      obtain ⟨i, j, rfl, rfl, hij, hj⟩ := fld_nat hf
      clear hf hp
      go_enter Try.func40, Try.ntmps40
      go_wp2_with fail
      refine (isField_any _ _ _ _).mono ?_; rw [HF.out]; rintro e w1 ⟨rfl, hb1⟩
      have q0 := cell_later hb1 p0
      have q1 := cell_later hb1 p1
      go_wp2_with fail
      refine (arePasses_any _ _ ps _ _ (ra.up hb1) hl (by omega) (by omega)).mono ?_; rw [HP.out]; rintro e w2 ⟨rfl, hb2⟩
      have q2 := cell_later hb2 q0
      have q3 := cell_later hb2 q1
      go_wp2_with fail
      refine (alwaysSorts_any _ _ ps i j (alwR ps (i : Int) (j : Int)) _ ((ra.up hb1).up hb2) hl hij hj HM.out HR.out).mono ?_; rintro e w3 ⟨rfl, hb3⟩
      go_wp2
      go_ret2
      exact ⟨ret_bi2 rfl HC.out.symm, bs (bs (bs T0 hb1) hb2) hb3⟩
    · have HC := Lib.hid (alwC_p hf hp)
      have HR := Lib.hid (alwR_1 HC.out)
      have HF := Lib.hid hf
      have HP := Lib.hid hp
      clear hf hp
      go_enter Try.func40, Try.ntmps40
      go_wp2_with fail
      refine (isField_any _ _ _ _).mono ?_; rw [HF.out]; rintro e w1 ⟨rfl, hb1⟩
      go_wp2_with fail
      refine (arePasses_any _ _ ps _ _ (ra.up hb1) hl (by omega) (by omega)).mono ?_; rw [HP.out]; rintro e w2 ⟨rfl, hb2⟩
      go_wp2
      go_ret2
      exact ⟨ret_bi2 HR.out.symm HC.out.symm, bs (bs T0 hb1) hb2⟩
  · have HC := Lib.hid (alwC_f (ps := ps) hf)
    have HR := Lib.hid (alwR_1 HC.out)
    have HF := Lib.hid hf
    clear hf
    go_enter Try.func40, Try.ntmps40
    go_wp2_with fail
    refine (isField_any _ _ _ _).mono ?_; rw [HF.out]; rintro e w1 ⟨rfl, hb1⟩
    go_wp2
    go_ret2
    exact ⟨ret_bi2 HR.out.symm HC.out.symm, bs T0 hb1⟩

set_option maxHeartbeats 2000000 in
theorem spAlwaysSorts_any (a b : Int) (A : Option Addr) (c : Nat) (ps : List (Int × Int)) (w : World) (ha : Rd w w.heap.size 2 A ps.length (prs ps)) (hl : ps.length ≤ 1048576) :
    Calls Try.prog 37 #[.agg #[.int .i64 a, .int .i64 b], .slice A ps.length c] w fun e w' => e = .returned (.tuple #[.bool (alwR ps a b), .int .i64 (alwC ps a b)]) ∧ Below w.heap.size w w' := by
  have T0 : Below w.heap.size w (w.alloc (.cells #[.int .i64 a, .int .i64 b] 60)) := ba (b0 w) _
  have ra := ha.a1 (.cells #[.int .i64 a, .int .i64 b] 60)
  have p0 : (w.alloc (.cells #[.int .i64 a, .int .i64 b] 60)).cell? ⟨w.heap.size, 0, none⟩ = some (.int .i64 a) := cell_new rfl rfl
  have p1 : (w.alloc (.cells #[.int .i64 a, .int .i64 b] 60)).cell? ⟨w.heap.size, 1, none⟩ = some (.int .i64 b) := cell_new rfl rfl
  rcases Bool.eq_false_or_eq_true (fieldOk a b 20) with hf | hf
  · rcases Bool.eq_false_or_eq_true (passesOk 20 ps) with hp | hp
    · have HC := Lib.hid (alwC_0 hf hp)
      have HR := Lib.hid (alwR_0 HC.out)
      have HM := Lib.hid (passesOk_modes hp)
      have HF := Lib.hid hf
      have HP := Lib.hid hp
      obtain ⟨i, j, rfl, rfl, hij, hj⟩ := fld_nat hf
      clear hf hp
      go_enter Try.func37, Try.ntmps37
      go_wp2_with fail
      refine (l02Field_any _ _ _ _).mono ?_; rw [HF.out]; rintro e w1 ⟨rfl, hb1⟩
      have q0 := cell_later hb1 p0
      have q1 := cell_later hb1 p1
      go_wp2_with fail
      refine (l08Passes_any _ _ ps _ (ra.up hb1) hl).mono ?_; rw [HP.out]; rintro e w2 ⟨rfl, hb2⟩
      have q2 := cell_later hb2 q0
      have q3 := cell_later hb2 q1
      go_wp2_with fail
      refine (l08Always_any _ _ ps i j (alwR ps (i : Int) (j : Int)) _ ((ra.up hb1).up hb2) hl hij hj HM.out HR.out).mono ?_; rintro e w3 ⟨rfl, hb3⟩
      go_wp2
      go_ret2
      exact ⟨ret_bi2 rfl HC.out.symm, bs (bs (bs T0 hb1) hb2) hb3⟩
    · have HC := Lib.hid (alwC_p hf hp)
      have HR := Lib.hid (alwR_1 HC.out)
      have HF := Lib.hid hf
      have HP := Lib.hid hp
      clear hf hp
      go_enter Try.func37, Try.ntmps37
      go_wp2_with fail
      refine (l02Field_any _ _ _ _).mono ?_; rw [HF.out]; rintro e w1 ⟨rfl, hb1⟩
      go_wp2_with fail
      refine (l08Passes_any _ _ ps _ (ra.up hb1) hl).mono ?_; rw [HP.out]; rintro e w2 ⟨rfl, hb2⟩
      go_wp2
      go_ret2
      exact ⟨ret_bi2 HR.out.symm HC.out.symm, bs (bs T0 hb1) hb2⟩
  · have HC := Lib.hid (alwC_f (ps := ps) hf)
    have HR := Lib.hid (alwR_1 HC.out)
    have HF := Lib.hid hf
    clear hf
    go_enter Try.func37, Try.ntmps37
    go_wp2_with fail
    refine (l02Field_any _ _ _ _).mono ?_; rw [HF.out]; rintro e w1 ⟨rfl, hb1⟩
    go_wp2
    go_ret2
    exact ⟨ret_bi2 HR.out.symm HC.out.symm, bs T0 hb1⟩
end Go.Proofs.Ytoakjfoioijaaaa
