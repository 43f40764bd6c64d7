/- DistanceOf, and equal columns; in the program and in the reference. -/
import Derived.Test.YthbgdnjlmaadjaaNearAll
namespace Go.Proofs.Ythbgdnjlmaadjaa
open Go.RowKit

def distRes (xs ys : List Int) : Int := if pairC xs ys = 0 then distV xs ys else 0
theorem ret_ii {a b c d : Int} (h : a = b) (k : c = d) : Ending.returned (.tuple #[.int .i64 a, .int .i64 c]) = .returned (.tuple #[.int .i64 b, .int .i64 d]) := by rw [h, k]

set_option maxHeartbeats 1000000 in
theorem DistanceOf_any (A : Option Addr) (c : Nat) (xs : List Int) (A' : Option Addr) (c' : Nat) (ys : List Int) (w : World) (ha : Rd w w.heap.size 1 A xs.length (ints xs)) (hl : xs.length ≤ 1048576) (_hc : xs.length ≤ c) (hb : Rd w w.heap.size 1 A' ys.length (ints ys)) (hl' : ys.length ≤ 1048576) (_hc' : ys.length ≤ c') :
    Calls Try.prog 9 #[.agg #[.slice A xs.length c], .agg #[.slice A' ys.length c']] w fun e w' => e = .returned (.tuple #[.int .i64 (distRes xs ys), .int .i64 (pairC xs ys)]) ∧ Below w.heap.size w w' := by
  have T0 : Below w.heap.size w ((w.alloc (.cells #[.slice A xs.length c] 26)).alloc (.cells #[.slice A' ys.length c'] 26)) := ba (ba (b0 _) _) _
  replace ha := (ha.a1 (.cells #[.slice A xs.length c] 26)).a1 (.cells #[.slice A' ys.length c'] 26)
  replace hb := (hb.a1 (.cells #[.slice A xs.length c] 26)).a1 (.cells #[.slice A' ys.length c'] 26)
  by_cases hz : pairC xs ys = 0
  · obtain ⟨hv, hv', hee⟩ := pairC_zero hz
    have HR := Lib.hid (show distRes xs ys = distV xs ys by unfold distRes; rw [if_pos hz])
    have HZ := Lib.hid hz
    have HV := Lib.hid hv
    have HV' := Lib.hid hv'
    have HE := Lib.hid hee.symm
    clear hv hv' hee
    go_enter Try.func9, Try.ntmps9
    go_wp2_with fail
    refine (pairCode_any _ _ _ _ xs ys _ ha hb hl hl').mono ?_; rintro e w1 ⟨rfl, hb1⟩
    have k1 : w1.cell? ⟨w.heap.size, 0, none⟩ = some (.slice A xs.length c) := cell_later hb1 (by simp)
    have k2 : w1.cell? ⟨w.heap.size + 1, 0, none⟩ = some (.slice A' ys.length c') := cell_later hb1 (by simp)
    go_wp2_with fail
    refine (distanceOf_any _ _ _ _ xs ys _ (ha.up hb1) (hb.up hb1) HV.out HV'.out HE.out).mono ?_; rintro e w2 ⟨rfl, hb2⟩
    go_wp2
    go_ret2
    exact ⟨ret_ii HR.out.symm HZ.out.symm, bs (bs T0 hb1) hb2⟩
  · have HR := Lib.hid (show distRes xs ys = 0 by unfold distRes; rw [if_neg hz])
    go_enter Try.func9, Try.ntmps9
    go_wp2_with fail
    refine (pairCode_any _ _ _ _ xs ys _ ha hb hl hl').mono ?_; rintro e w1 ⟨rfl, hb1⟩
    go_wp2
    go_ret2
    exact ⟨ret_ii HR.out.symm rfl, bs T0 hb1⟩

set_option maxHeartbeats 1000000 in
theorem spDistanceOf_any (A : Option Addr) (c : Nat) (xs : List Int) (A' : Option Addr) (c' : Nat) (ys : List Int) (w : World) (ha : Rd w w.heap.size 1 A xs.length (ints xs)) (hl : xs.length ≤ 1048576) (_hc : xs.length ≤ c) (hb : Rd w w.heap.size 1 A' ys.length (ints ys)) (hl' : ys.length ≤ 1048576) (_hc' : ys.length ≤ c') :
    Calls Try.prog 10 #[.agg #[.slice A xs.length c], .agg #[.slice A' ys.length c']] w fun e w' => e = .returned (.tuple #[.int .i64 (distRes xs ys), .int .i64 (pairC xs ys)]) ∧ Below w.heap.size w w' := by
  have T0 : Below w.heap.size w ((w.alloc (.cells #[.slice A xs.length c] 26)).alloc (.cells #[.slice A' ys.length c'] 26)) := ba (ba (b0 _) _) _
  replace ha := (ha.a1 (.cells #[.slice A xs.length c] 26)).a1 (.cells #[.slice A' ys.length c'] 26)
  replace hb := (hb.a1 (.cells #[.slice A xs.length c] 26)).a1 (.cells #[.slice A' ys.length c'] 26)
  by_cases hz : pairC xs ys = 0
  · obtain ⟨hv, hv', hee⟩ := pairC_zero hz
    have HR := Lib.hid (show distRes xs ys = distV xs ys by unfold distRes; rw [if_pos hz])
    have HZ := Lib.hid hz
    have HV := Lib.hid hv
    have HV' := Lib.hid hv'
    have HE := Lib.hid hee.symm
    clear hv hv' hee
    go_enter Try.func10, Try.ntmps10
    go_wp2_with fail
    refine (l06Two_any w.heap.size 0 (w.heap.size + 1) 0 _ _ _ _ xs ys _ (cell_alloc (cell_new rfl rfl) _) (cell_new (by simp) rfl) ha hb hl hl').mono ?_; rintro e w1 ⟨rfl, hb1⟩
    have k1 : w1.cell? ⟨w.heap.size, 0, none⟩ = some (.slice A xs.length c) := cell_later hb1 (by simp)
    have k2 : w1.cell? ⟨w.heap.size + 1, 0, none⟩ = some (.slice A' ys.length c') := cell_later hb1 (by simp)
    go_wp2_with fail
    refine (l06Far_any _ _ _ _ _ _ _ _ xs ys _ k1 k2 (ha.up hb1) (hb.up hb1) HV.out HV'.out HE.out).mono ?_; rintro e w2 ⟨rfl, hb2⟩
    go_wp2
    go_ret2
    exact ⟨ret_ii HR.out.symm HZ.out.symm, bs (bs T0 hb1) hb2⟩
  · have HR := Lib.hid (show distRes xs ys = 0 by unfold distRes; rw [if_neg hz])
    go_enter Try.func10, Try.ntmps10
    go_wp2_with fail
    refine (l06Two_any w.heap.size 0 (w.heap.size + 1) 0 _ _ _ _ xs ys _ (cell_alloc (cell_new rfl rfl) _) (cell_new (by simp) rfl) ha hb hl hl').mono ?_; rintro e w1 ⟨rfl, hb1⟩
    go_wp2
    go_ret2
    exact ⟨ret_ii HR.out.symm rfl, bs T0 hb1⟩
end Go.Proofs.Ythbgdnjlmaadjaa
