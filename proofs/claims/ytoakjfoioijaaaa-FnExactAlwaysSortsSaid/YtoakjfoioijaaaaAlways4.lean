/- AlwaysSorts: the reference's loops, and the calls. -/
import Derived.Test.YtoakjfoioijaaaaAlways3
namespace Go.Proofs.Ytoakjfoioijaaaa
open Go.RowKit

theorem l08Pair_z (A : Option Addr) (c : Nat) (ps : List (Int × Int)) (col : Int) (i j : Nat) (hi : i < 40) (hj : j < 40) (r : Bool) (hr : r = pairB ps col i j) (w : World) (ha : Rd w w.heap.size 2 A ps.length (prs ps)) (hl : ps.length ≤ 1048576) (hm : ∀ p ∈ ps, p.2 = 1 ∨ p.2 = 2) :
    Calls Try.prog 131 #[.slice A ps.length c, .int .i64 col, .int .u8 (charB[i]'(by exact hi)).toNat, .int .u8 (charB[j]'(by exact hj)).toNat] w fun e w' => e = .returned (.bool r) ∧ Below w.heap.size w w' := by
  subst hr
  rw [pairB_def hi hj]
  exact l08Pair_any A c ps col i j hi hj _ _ rfl rfl w ha hl hm
theorem l00In_z (n lo hi : Int) (b : Bool) (hb : b = insideB n lo hi) (w : World) :
    Calls Try.prog 111 #[.int .i64 n, .int .i64 lo, .int .i64 hi] w fun e w' => e = .returned (.bool b) ∧ w = w' := by
  subst hb
  exact l00In_any n lo hi w

set_option maxRecDepth 20000 in
set_option maxHeartbeats 8000000 in
theorem l08Always_any (A : Option Addr) (c : Nat) (ps : List (Int × Int)) (i j : Nat) (r : Bool) (w : World) (ha : Rd w w.heap.size 2 A ps.length (prs ps)) (hl : ps.length ≤ 1048576) (hij : i < j) (hj : j ≤ 20) (hm : ∀ p ∈ ps, p.2 = 1 ∨ p.2 = 2) (hr : r = alwB ps (i : Int) (j : Int)) :
    Calls Try.prog 89 #[.agg #[.int .i64 (i : Int), .int .i64 (j : Int)], .slice A ps.length c] w fun e w' => e = .returned (.bool r) ∧ Below w.heap.size w w' := by
  have HR := Lib.hid hr
  have HM := Lib.hid hm
  have T0 : Below w.heap.size w (w.alloc (.cells #[.int .i64 (i : Int), .int .i64 (j : Int)] 60)) := ba (b0 w) _
  have ra := ha.a1 (.cells #[.int .i64 (i : Int), .int .i64 (j : Int)] 60)
  obtain ⟨W, hW⟩ : ∃ W, W = w.alloc (.cells #[.int .i64 (i : Int), .int .i64 (j : Int)] 60) := ⟨_, rfl⟩
  have k2 : W.cell? ⟨w.heap.size, 0, none⟩ = some (.int .i64 (i : Int)) := by rw [hW]; exact cell_new rfl rfl
  have k3 : W.cell? ⟨w.heap.size, 1, none⟩ = some (.int .i64 (j : Int)) := by rw [hW]; exact cell_new rfl rfl
  rw [← hW] at T0 ra
  have HW := Lib.hid hW
  clear hW hr hm
  go_enter Try.func89, Try.ntmps89
  go_wp2
  rw [← HW.out]
  go_loopw [5] (fun q wr => AIn ps i j W wr q) (fun q _ => ps.length - (intOf q).toNat)
  case atStart => exact ⟨0, Nat.zero_le _, rfl, rfl, b0 _⟩
  case round =>
    obtain ⟨wo, rfl⟩ : ∃ wo : World, wo = wr := ⟨_, rfl⟩
    obtain ⟨k, hk, rfl, hno, hbw⟩ := hrel
    have HNO := Lib.hid hno
    clear hno
    by_cases hlt : k < ps.length
    · obtain ⟨b, o, rfl, _, hc⟩ := ra.at_ hlt
      have d1 := cell_later hbw (hc _ _ (prs_fst ps k hlt))
      have d2 := cell_later hbw k2
      have d3 := cell_later hbw k3
      have HIN := Lib.hid (@fld_out ps i j k hlt)
      have HSU := Lib.hid (fun h => any_take_succ (p := fun p => !insideB p.1 (i : Int) ((j : Int) - 1)) hlt HNO.out h)
      obtain ⟨pc, hpc⟩ : ∃ pc, pc = ps[k].1 := ⟨_, rfl⟩
      rw [← hpc] at d1 HIN HSU
      have i1 : (k : Int) < (ps.length : Int) := by omega
      have l1 := fun x : Later wo => lat_cell x d1
      have l2 := fun x : Later wo => lat_cell x d2
      have l3 := fun x : Later wo => lat_cell x d3
      have hw1 : IntKind.i64.wrap ((j : Int) - 1) = (j : Int) - 1 := IntWalk.i64_in _ (by omega)
      clear hc hpc d1 d2 d3
      rcases Bool.eq_false_or_eq_true (insideB pc (i : Int) ((j : Int) - 1)) with hp | hp
      · have HN := Lib.hid (HSU.out (by rw [hp]; rfl))
        have HPP := Lib.hid hp.symm
        clear hp
        go_wp2_with fail
        refine wp_region_later (by kernel_rfl) (by kernel_rfl) ?_
        repeat (go_big_quiet_step (fail))
        go_big_quiet_step ((go_at_call 111; exact lat_pure (l00In_z _ _ _ true HPP.out _)))
        repeat (go_big_quiet_step (fail))
        refine wpQuiet_nil ?_
        intro w4 hb4
        have TT := bs hbw hb4
        clear hbw hb4 l1 l2 l3 hw1
        go_wp2
        go_roundw
        case rel =>
          have P : AIn ps i j W w4 (.int .i64 ((k : Int) + 1)) := ⟨k + 1, by omega, by go_num, HN.out, TT⟩
          first | exact P | exact ⟨_, P, rfl⟩ | exact ⟨_, _, P, rfl, rfl⟩ | exact ⟨_, _, _, P, rfl, rfl, rfl⟩ | exact ⟨_, _, _, _, P, rfl, rfl, rfl, rfl⟩ | exact ⟨_, _, _, _, _, P, rfl, rfl, rfl, rfl, rfl⟩ | exact ⟨_, _, _, _, _, _, P, rfl, rfl, rfl, rfl, rfl, rfl⟩ | exact ⟨_, _, _, _, _, _, _, P, rfl, rfl, rfl, rfl, rfl, rfl, rfl⟩ | exact ⟨_, _, _, _, _, _, _, _, P, rfl, rfl, rfl, rfl, rfl, rfl, rfl, rfl⟩
        case measure => simp [intOf]; omega
      · have HN := Lib.hid (HIN.out hp)
        have HPP := Lib.hid hp.symm
        clear hp
        go_wp2_with fail
        refine wp_region_later (by kernel_rfl) (by kernel_rfl) ?_
        repeat (go_big_quiet_step (fail))
        go_big_quiet_step ((go_at_call 111; exact lat_pure (l00In_z _ _ _ false HPP.out _)))
        repeat (go_big_quiet_step (fail))
        refine wpQuiet_nil ?_
        intro w4 hb4
        have TT := bs hbw hb4
        clear hbw hb4 l1 l2 l3 hw1
        go_wp2
        go_ret
        exact ⟨ret_bool (by rw [HR.out, HN.out]), bs T0 TT⟩
    · have HIN := Lib.hid (any_take_all hlt HNO.out)
      go_wp2_with fail
      refine (l03Order_any _).mono ?_; rintro e w1 ⟨rfl, rfl⟩
      have k2' := cell_later hbw k2
      go_wp2
      go_loopw [7, 8, 9] (fun q _ _ wr => AFl ps i j W wr q) (fun q _ _ _ => j - (intOf q).toNat)
      case atStart => exact ⟨0, by omega, rfl, rfl, hbw⟩
      case round =>
        obtain ⟨wp, rfl⟩ : ∃ wp : World, wp = wr := ⟨_, rfl⟩
        obtain ⟨n, hn, rfl, hf, hbn⟩ := hrel
        have HF := Lib.hid hf
        have k3' := cell_later hbn k3
        clear hf
        by_cases hlt2 : i + n < j
        · obtain ⟨d, hd⟩ : ∃ d : Nat, d = i + n := ⟨_, rfl⟩
          have HD := Lib.hid hd
          rw [← hd] at hlt2 ⊢
          have hd20 : d < 20 := by omega
          clear hd
          go_wp2
          go_loopw [8, 9] (fun q _ wr => ARow ps d W wr q) (fun q _ _ => 40 - (intOf q).toNat)
          case atStart => exact ⟨0, by omega, rfl, rfl, hbn⟩
          case round =>
            obtain ⟨ws, rfl⟩ : ∃ ws : World, ws = wr := ⟨_, rfl⟩
            obtain ⟨x, hx, rfl, hco, hbs⟩ := hrel
            have HCO := Lib.hid hco
            clear hco
            by_cases hx40 : x < 40
            · have i1 : (x : Int) < 40 := by omega
              go_wp2
              go_loopw [9] (fun q wr => APr ps d x W wr q) (fun q _ => 40 - (intOf q).toNat)
              case atStart => exact ⟨x + 1, by omega, by omega, by go_num, rowB_start _ _ _, hbs⟩
              case round =>
                obtain ⟨wt, rfl⟩ : ∃ wt : World, wt = wr := ⟨_, rfl⟩
                obtain ⟨y, hxy, hy, rfl, hro, hbt⟩ := hrel
                have HRO := Lib.hid hro
                clear hro
                by_cases hy40 : y < 40
                · have i2 : (y : Int) < 40 := by omega
                  have rt := ra.up hbt
                  rcases Bool.eq_false_or_eq_true (pairB ps (d : Int) x y) with hp | hp
                  · have HN := Lib.hid (rowB_yes HRO.out hp)
                    have HPP := Lib.hid hp.symm
                    clear hp
                    go_wp2_with fail
                    refine wp_region_later (by kernel_rfl) (by kernel_rfl) ?_
                    repeat (go_big_quiet_step (fail))
                    go_big_quiet_step ((go_at_call 131; exact lat_call (l08Pair_z _ _ ps (d : Int) x y hx40 hy40 true HPP.out _ (lat_rd _ rt) hl HM.out)))
                    repeat (go_big_quiet_step (fail))
                    refine wpQuiet_nil ?_
                    intro w4 hb4
                    have TT := bs hbt hb4
                    clear hbt hb4 rt
                    go_wp2
                    go_roundw
                    case rel =>
                      have P : APr ps d x W w4 (.int .i64 ((y : Int) + 1)) := ⟨y + 1, by omega, by omega, by go_num, HN.out, TT⟩
                      first | exact P | exact ⟨_, P, rfl⟩ | exact ⟨_, _, P, rfl, rfl⟩ | exact ⟨_, _, _, P, rfl, rfl, rfl⟩ | exact ⟨_, _, _, _, P, rfl, rfl, rfl, rfl⟩ | exact ⟨_, _, _, _, _, P, rfl, rfl, rfl, rfl, rfl⟩ | exact ⟨_, _, _, _, _, _, P, rfl, rfl, rfl, rfl, rfl, rfl⟩ | exact ⟨_, _, _, _, _, _, _, P, rfl, rfl, rfl, rfl, rfl, rfl, rfl⟩ | exact ⟨_, _, _, _, _, _, _, _, P, rfl, rfl, rfl, rfl, rfl, rfl, rfl, rfl⟩
                    case measure => simp [intOf]; omega
                  · have HN := Lib.hid hp
                    have HPP := Lib.hid hp.symm
                    clear hp
                    go_wp2_with fail
                    refine wp_region_later (by kernel_rfl) (by kernel_rfl) ?_
                    repeat (go_big_quiet_step (fail))
                    go_big_quiet_step ((go_at_call 131; exact lat_call (l08Pair_z _ _ ps (d : Int) x y hx40 hy40 false HPP.out _ (lat_rd _ rt) hl HM.out)))
                    repeat (go_big_quiet_step (fail))
                    refine wpQuiet_nil ?_
                    intro w4 hb4
                    have TT := bs hbt hb4
                    clear hbt hb4 rt
                    go_wp2
                    go_ret
                    exact ⟨ret_bool (by rw [HR.out]; exact (fld_no (i := i) (n := n) (by have := HD.out; omega) hx40 hxy hy40 (by rw [← HD.out]; exact HN.out)).symm), bs T0 TT⟩
                · have hye : y = 40 := by omega
                  have HN := Lib.hid (colB_yes HCO.out (by rw [← hye]; exact HRO.out))
                  go_wp2
                  go_roundw
                  case rel =>
                    have P : ARow ps d W wt (.int .i64 ((x : Int) + 1)) := ⟨x + 1, by omega, by go_num, HN.out, hbt⟩
                    first | exact P | exact ⟨_, P, rfl⟩ | exact ⟨_, _, P, rfl, rfl⟩ | exact ⟨_, _, _, P, rfl, rfl, rfl⟩ | exact ⟨_, _, _, _, P, rfl, rfl, rfl, rfl⟩ | exact ⟨_, _, _, _, _, P, rfl, rfl, rfl, rfl, rfl⟩ | exact ⟨_, _, _, _, _, _, P, rfl, rfl, rfl, rfl, rfl, rfl⟩ | exact ⟨_, _, _, _, _, _, _, P, rfl, rfl, rfl, rfl, rfl, rfl, rfl⟩ | exact ⟨_, _, _, _, _, _, _, _, P, rfl, rfl, rfl, rfl, rfl, rfl, rfl, rfl⟩
                  case measure => simp [intOf]; omega
            · have hxe : x = 40 := by omega
              have HN := Lib.hid (fldB_next HF.out (by rw [← HD.out, ← hxe]; exact HCO.out))
              go_wp2
              go_roundw
              case rel =>
                have P : AFl ps i j W ws (.int .i64 ((d : Int) + 1)) := ⟨n + 1, by have := HD.out; omega, by have := HD.out; subst this; go_num, HN.out, hbs⟩
                first | exact P | exact ⟨_, P, rfl⟩ | exact ⟨_, _, P, rfl, rfl⟩ | exact ⟨_, _, _, P, rfl, rfl, rfl⟩ | exact ⟨_, _, _, _, P, rfl, rfl, rfl, rfl⟩ | exact ⟨_, _, _, _, _, P, rfl, rfl, rfl, rfl, rfl⟩ | exact ⟨_, _, _, _, _, _, P, rfl, rfl, rfl, rfl, rfl, rfl⟩ | exact ⟨_, _, _, _, _, _, _, P, rfl, rfl, rfl, rfl, rfl, rfl, rfl⟩ | exact ⟨_, _, _, _, _, _, _, _, P, rfl, rfl, rfl, rfl, rfl, rfl, rfl, rfl⟩
              case measure => simp [intOf]; omega
        · have HN := Lib.hid (fld_yes (show i + n = j by omega) HF.out HIN.out)
          go_wp2
          go_ret
          exact ⟨ret_bool (by rw [HR.out, HN.out]), bs T0 hbn⟩

theorem alwC_0 {ps : List (Int × Int)} {a b : Int} (h1 : fieldOk a b 20 = true) (h2 : passesOk 20 ps = true) : alwC ps a b = 0 := by unfold alwC; rw [if_pos h1, if_pos h2]
theorem alwC_p {ps : List (Int × Int)} {a b : Int} (h1 : fieldOk a b 20 = true) (h2 : passesOk 20 ps = false) : alwC ps a b = 2 := by unfold alwC; rw [if_pos h1, if_neg (by rw [h2]; decide)]
theorem alwC_f {ps : List (Int × Int)} {a b : Int} (h1 : fieldOk a b 20 = false) : alwC ps a b = 2 := by unfold alwC; rw [if_neg (by rw [h1]; decide)]
theorem alwR_0 {ps : List (Int × Int)} {a b : Int} (h : alwC ps a b = 0) : alwR ps a b = alwB ps a b := by unfold alwR; rw [if_pos h]
theorem alwR_1 {ps : List (Int × Int)} {a b : Int} (h : alwC ps a b = 2) : alwR ps a b = false := by unfold alwR; rw [if_neg (by rw [h]; decide)]
theorem passesOk_modes {ps : List (Int × Int)} (h : passesOk 20 ps = true) : ∀ p ∈ ps, p.2 = 1 ∨ p.2 = 2 := by
  intro p hp
  unfold passesOk at h
  rw [Bool.and_eq_true, List.all_eq_true] at h
  exact passOk_mode (h.2 p hp)
theorem ret_bi2 {p q : Bool} {a b : Int} (h : p = q) (k : a = b) : Ending.returned (.tuple #[.bool p, .int .i64 a]) = .returned (.tuple #[.bool q, .int .i64 b]) := by rw [h, k]
end Go.Proofs.Ytoakjfoioijaaaa
