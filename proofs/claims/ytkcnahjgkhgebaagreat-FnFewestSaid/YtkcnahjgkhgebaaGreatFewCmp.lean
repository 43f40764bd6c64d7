/- slices.Compare over lists of numbers, the number of ones of a number. -/
import Derived.Test.YtkcnahjgkhgebaaGreatRankAll
import Derived.Test.YtkcnahjgkhgebaaGreatCodeAll
import Derived.Test.YtkcnahjgkhgebaaGreatFewLaw
namespace Go.Proofs.YtkcnahjgkhgebaaGreat
open Go.RowKit

theorem isNaN_any (x : Int) (w : World) : Calls Tryz.prog 101 #[.int .i64 x] w fun e w' => e = .returned (.bool false) ∧ w = w' := by
  go_enter Tryz.func101, Tryz.ntmps101
  go_wp2
  go_ret
  exact ⟨ret_bool (by simp), rfl⟩
theorem cmpInt_lt (x y : Int) (w : World) (h : x < y) : Calls Tryz.prog 66 #[.int .i64 x, .int .i64 y] w fun e w' => e = .returned (.int .i64 (-1)) ∧ w = w' := by
  go_enter Tryz.func66, Tryz.ntmps66
  go_wp2_with (first | (go_at_call 101; refine (isNaN_any _ _).mono ?_; rintro e w' ⟨rfl, rfl⟩))
  go_ret
  exact ⟨rfl, rfl⟩
theorem cmpInt_gt (x y : Int) (w : World) (h : y < x) : Calls Tryz.prog 66 #[.int .i64 x, .int .i64 y] w fun e w' => e = .returned (.int .i64 1) ∧ w = w' := by
  have h2 : ¬ x < y := by omega
  go_enter Tryz.func66, Tryz.ntmps66
  go_wp2_with (first | (go_at_call 101; refine (isNaN_any _ _).mono ?_; rintro e w' ⟨rfl, rfl⟩))
  go_ret
  exact ⟨rfl, rfl⟩
theorem cmpInt_eq (x y : Int) (w : World) (h : x = y) : Calls Tryz.prog 66 #[.int .i64 x, .int .i64 y] w fun e w' => e = .returned (.int .i64 0) ∧ w = w' := by
  have h2 : ¬ x < y := by omega
  have h3 : ¬ y < x := by omega
  clear h
  go_enter Tryz.func66, Tryz.ntmps66
  go_wp2_with (first | (go_at_call 101; refine (isNaN_any _ _).mono ?_; rintro e w' ⟨rfl, rfl⟩))
  go_ret
  exact ⟨rfl, rfl⟩

set_option maxHeartbeats 4000000 in
theorem slCompare_any (n m : Nat) (A B : Option Addr) (c d : Nat) (xs ys : List Int) (w : World) (hn : xs.length = n) (hm : ys.length = m) (hnm : n = m) (ha : Rd w w.heap.size 1 A n (ints xs)) (hb : Rd w w.heap.size 1 B m (ints ys)) (hl : n ≤ 1048576) :
    Calls Tryz.prog 32 #[.slice A n c, .slice B m d] w fun e w' => e = .returned (.int .i64 (cmpN xs ys)) ∧ w = w' := by
  have HN := Lib.hid hn
  have HM := Lib.hid hm
  have HNM := Lib.hid hnm
  have hmn : n ≤ m := by omega
  have hnm' : ¬ (n : Int) < (m : Int) := by omega
  clear hn hm hnm
  go_enter Tryz.func32, Tryz.ntmps32
  go_wp2
  go_loop [11] (fun i => ∃ k : Nat, k ≤ n ∧ i = .int .i64 k ∧ xs.take k = ys.take k) (fun i => n - (intOf i).toNat)
  case atStart => exact ⟨0, by omega, rfl, rfl⟩
  case round =>
    obtain ⟨k, hk, rfl, hsame⟩ := hrel
    have HS := Lib.hid hsame
    clear hsame
    by_cases hlt : k < n
    · have hltb : k < m := by omega
      have hkx : k < xs.length := by rw [HN.out]; exact hlt
      have hky : k < ys.length := by rw [HM.out]; exact hltb
      obtain ⟨b1, o1, rfl, hb1, hc1⟩ := ha.at_ hlt
      obtain ⟨b2, o2, rfl, hb2, hc2⟩ := hb.at_ hltb
      obtain ⟨u, hu⟩ : ∃ u, u = xs[k] := ⟨_, rfl⟩
      obtain ⟨v, hv⟩ : ∃ v, v = ys[k] := ⟨_, rfl⟩
      have d1 := hc1 k _ (ints_get _ k hkx)
      have d2 := hc2 k _ (ints_get _ k hky)
      rw [← hu] at d1
      rw [← hv] at d2
      have HAT := Lib.hid (cmpN_at HS.out hkx hky)
      rw [← hu, ← hv] at HAT
      have HU := Lib.hid hu
      have HV := Lib.hid hv
      have i1 : (k : Int) < (n : Int) := by omega
      have i2 : ¬ (m : Int) ≤ (k : Int) := by omega
      clear hc1 hc2 hu hv
      rcases Int.lt_trichotomy u v with h | h | h
      · have HZ := Lib.hid (HAT.out.1 h)
        go_wp2_with fail
        refine (cmpInt_lt u v _ h).mono ?_; rintro e w1 ⟨rfl, rfl⟩
        go_wp2
        go_ret
        exact ⟨ret_int HZ.out.symm, rfl⟩
      · have HE := Lib.hid h
        have HT := Lib.hid (show xs.take (k + 1) = ys.take (k + 1) by
          rw [List.take_succ_eq_append_getElem hkx, List.take_succ_eq_append_getElem hky, HS.out, ← HU.out, ← HV.out, HE.out])
        clear h
        go_wp2_with fail
        refine (cmpInt_eq u v _ HE.out).mono ?_; rintro e w1 ⟨rfl, rfl⟩
        go_wp2
        go_round
        case rel => exact ⟨k + 1, by omega, by go_num, HT.out⟩
        case measure => simp [intOf]; omega
      · have HZ := Lib.hid (HAT.out.2 h)
        go_wp2_with fail
        refine (cmpInt_gt u v _ h).mono ?_; rintro e w1 ⟨rfl, rfl⟩
        go_wp2
        go_ret
        exact ⟨ret_int HZ.out.symm, rfl⟩
    · have HZ := Lib.hid (cmpN_same HS.out (by rw [HN.out]; omega) (by rw [HN.out, HM.out, HNM.out]))
      go_wp2
      go_ret
      exact ⟨ret_int HZ.out.symm, rfl⟩

theorem ones_any (n : Nat) (h : n ≤ 4095) (w : World) : Calls Tryz.prog 31 #[.int .u64 (n : Int)] w fun e w' => e = .returned (.int .i64 (pop n : Int)) ∧ w = w' := by
  go_enter Tryz.func31, Tryz.ntmps31
  go_wp2_with fail
  refine (ones64_any n h _).mono ?_; rintro e w1 ⟨rfl, rfl⟩
  go_wp2
  go_ret
  exact ⟨rfl, rfl⟩
theorem pop_bits : ∀ n : Fin 9, ∀ s : Fin 256, s.val < 2 ^ n.val → pop s.val = (bitsOf n.val s.val).length := by decide +kernel
end Go.Proofs.YtkcnahjgkhgebaaGreat
