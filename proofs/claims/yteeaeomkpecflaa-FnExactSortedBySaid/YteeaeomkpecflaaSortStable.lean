/- slices.SortStableFunc over []int64 on a row of the call's own that holds 0, 1, .. n-1, n at most 40: it holds the places one by one. -/
import Derived.Test.YteeaeomkpecflaaSortMerge
namespace Go.Proofs.Yteeaeomkpecflaa
open Go.RowKit

set_option maxRecDepth 20000 in
set_option maxHeartbeats 8000000 in
theorem stable_any (base g n c : Nat) (F : FuncId) (cb : Array Value) (cf : Int → Int → Int) (key : Int → Int) (f : Nat → Int) (w : World) (eg : ∀ args w, (callFunc F args).run Try.prog w = .ok (.enter F args) w)
    (hcmp : CmpOk F cb cf base n w) (hcf : ∀ x y : Int, 0 ≤ x → x < n → 0 ≤ y → y < n → (cf x y < 0 ↔ key x < key y)) (h : Row w base g n c f) (hv : Vals f n) (h40 : n ≤ 40) :
    Calls Try.prog 132 #[.slice (some ⟨g, 0, none⟩) n c, .int .i64 n, .func (.func F) #[] cb] w fun e w' => e = .returned (.tuple #[]) ∧ Row w' base g n c (stab key n f) ∧ w.grownBy w' (some g) := by
  have HC := Lib.hid hcmp
  have HF := Lib.hid hcf
  have HV := Lib.hid hv
  obtain ⟨hbg, hgw⟩ := h.base
  have hbw : base ≤ w.heap.size := by omega
  have HINS := Lib.hid (fun a b f w (hc : CmpOk F cb cf base n w) (hr : Row w base g n c f) (hv : Vals f n) (hab : a ≤ b) (hb : b ≤ n) => insertion_any base g n c a b F cb cf key f w eg hc hcf hr hv hab hb (by omega))
  have HSYM := Lib.hid (symMerge_any base g n c F cb cf key eg hcf (show n ≤ 1048576 by omega))
  clear hcmp hcf hv eg
  by_cases h20 : n < 20
  · have HR := Lib.hid (show stab key n f = insRun key 0 (n - 0 - 1) f by unfold stab; rw [if_pos (by omega)]; rfl)
    have i1 : ¬ (20 : Int) ≤ (n : Int) := by omega
    have i2 : ¬ (20 : Int) < (n : Int) := by omega
    go_enter Try.func132, Try.ntmps132
    go_wp2
    refine wp_loop_rounds 1 ?_
    rw [rounds_succ]
    go_wp2_with (refine (HINS.out 0 n f _ HC.out h HV.out (Nat.zero_le _) (Nat.le_refl _)).mono ?_; rintro e w1 ⟨rfl, hr1, hg1⟩)
    refine wp_loop_rounds 1 ?_
    rw [rounds_succ]
    go_wp2
    go_end0
    exact ⟨rfl, by rw [HR.out]; exact hr1, hg1⟩
  · have HV1 := Lib.hid (HV.out.perm (perm_insRun (n := n) (key := key) 0 f 19 (by omega)))
    by_cases h20' : n = 20
    · have HR := Lib.hid (show stab key n f = insRun key 20 (n - 20 - 1) (insRun key 0 (20 - 0 - 1) f) by unfold stab; rw [if_pos (by omega), show n - 1 = 19 by omega, show n - 20 - 1 = 0 by omega]; rfl)
      subst h20'
      go_enter Try.func132, Try.ntmps132
      go_wp2
      refine wp_loop_rounds 2 ?_
      rw [rounds_succ]
      go_wp2_with (refine (HINS.out 0 20 f _ HC.out h HV.out (by omega) (by omega)).mono ?_; rintro e w1 ⟨rfl, hr1, hg1⟩)
      have HB1 := Lib.hid (grown_base hg1 hbg hbw)
      have HC1 := Lib.hid (HC.out.later HB1.out)
      rw [rounds_succ]
      go_wp2_with (refine (HINS.out 20 20 _ _ HC1.out hr1 HV1.out (by omega) (by omega)).mono ?_; rintro e w2 ⟨rfl, hr2, hg2⟩)
      refine wp_loop_rounds 1 ?_
      rw [rounds_succ]
      go_wp2
      go_end0
      exact ⟨rfl, by rw [HR.out]; exact hr2, grown_trans hg1 hg2⟩
    · have HV2 := Lib.hid (HV1.out.perm (perm_insRun (n := n) (key := key) 20 (insRun key 0 19 f) (n - 21) (by omega)))
      by_cases hf : n = 40
      · have HR := Lib.hid (show stab key n f = sym key 40 0 20 40 (insRun key 40 (40 - 40 - 1) (insRun key 20 (40 - 20 - 1) (insRun key 0 (20 - 0 - 1) f))) by subst hf; unfold stab; rw [if_neg (by omega)]; rfl)
        subst hf
        go_enter Try.func132, Try.ntmps132
        go_wp2
        refine wp_loop_rounds 3 ?_
        rw [rounds_succ]
        go_wp2_with (refine (HINS.out 0 20 f _ HC.out h HV.out (by omega) (by omega)).mono ?_; rintro e w1 ⟨rfl, hr1, hg1⟩)
        have HB1 := Lib.hid (grown_base hg1 hbg hbw)
        have HC1 := Lib.hid (HC.out.later HB1.out)
        have hb1 : base ≤ w1.heap.size := Nat.le_trans hbw hg1.size
        rw [rounds_succ]
        go_wp2_with (refine (HINS.out 20 40 _ _ HC1.out hr1 HV1.out (by omega) (by omega)).mono ?_; rintro e w2 ⟨rfl, hr2, hg2⟩)
        have HB2 := Lib.hid (grown_base hg2 hbg hb1)
        have HC2 := Lib.hid (HC1.out.later HB2.out)
        have hb2 : base ≤ w2.heap.size := Nat.le_trans hb1 hg2.size
        rw [rounds_succ]
        go_wp2_with (refine (HINS.out 40 40 _ _ HC2.out hr2 HV2.out (by omega) (by omega)).mono ?_; rintro e w3 ⟨rfl, hr3, hg3⟩)
        have HB3 := Lib.hid (grown_base hg3 hbg hb2)
        have HC3 := Lib.hid (HC2.out.later HB3.out)
        refine wp_loop_rounds 2 ?_
        rw [rounds_succ]
        go_wp2
        refine wp_loop_rounds 2 ?_
        rw [rounds_succ]
        go_wp2_with (refine (HSYM.out 40 0 20 40 _ _ _ _ _ rfl (by first | rfl | omega) (by first | rfl | omega) HC3.out hr3 HV2.out (by omega) (by omega) (by omega) (by omega)).mono ?_; rintro e w4 ⟨rfl, hr4, hg4⟩)
        rw [rounds_succ]
        go_wp2
        rw [rounds_succ]
        go_wp2
        go_end0
        exact ⟨rfl, by rw [HR.out]; exact hr4, grown_trans (grown_trans (grown_trans hg1 hg2) hg3) hg4⟩
      · have HR := Lib.hid (show stab key n f = sym key n 0 20 n (insRun key 20 (n - 20 - 1) (insRun key 0 (20 - 0 - 1) f)) by unfold stab; rw [if_neg (by omega), show n - 20 - 1 = n - 21 by omega])
        have i1 : (20 : Int) ≤ (n : Int) := by omega
        have i2 : (20 : Int) < (n : Int) := by omega
        have i3 : ¬ (40 : Int) ≤ (n : Int) := by omega
        have i4 : ¬ (40 : Int) < (n : Int) := by omega
        go_enter Try.func132, Try.ntmps132
        go_wp2
        refine wp_loop_rounds 2 ?_
        rw [rounds_succ]
        go_wp2_with (refine (HINS.out 0 20 f _ HC.out h HV.out (by omega) (by omega)).mono ?_; rintro e w1 ⟨rfl, hr1, hg1⟩)
        have HB1 := Lib.hid (grown_base hg1 hbg hbw)
        have HC1 := Lib.hid (HC.out.later HB1.out)
        have hb1 : base ≤ w1.heap.size := Nat.le_trans hbw hg1.size
        rw [rounds_succ]
        go_wp2_with (refine (HINS.out 20 n _ _ HC1.out hr1 HV1.out (by omega) (by omega)).mono ?_; rintro e w2 ⟨rfl, hr2, hg2⟩)
        have HB2 := Lib.hid (grown_base hg2 hbg hb1)
        have HC2 := Lib.hid (HC1.out.later HB2.out)
        refine wp_loop_rounds 2 ?_
        rw [rounds_succ]
        go_wp2
        refine wp_loop_rounds 1 ?_
        rw [rounds_succ]
        go_wp2_with (refine (HSYM.out n 0 20 n _ _ _ _ _ rfl (by first | rfl | omega) rfl HC2.out hr2 HV2.out (by omega) (by omega) (by omega) (by omega)).mono ?_; rintro e w4 ⟨rfl, hr4, hg4⟩)
        go_wp2
        rw [rounds_succ]
        go_wp2
        go_end0
        exact ⟨rfl, by rw [HR.out]; exact hr4, grown_trans (grown_trans hg1 hg2) hg4⟩

set_option maxHeartbeats 1000000 in
/-- The whole sort: a row of the numbers 0, 1, .. n-1. -/
theorem SortStable_any (base g n c : Nat) (F : FuncId) (cb : Array Value) (cf : Int → Int → Int) (key : Int → Int) (w : World) (eg : ∀ args w, (callFunc F args).run Try.prog w = .ok (.enter F args) w)
    (hcmp : CmpOk F cb cf base n w) (hcf : ∀ x y : Int, 0 ≤ x → x < n → 0 ≤ y → y < n → (cf x y < 0 ↔ key x < key y)) (h : w.ownsRow base 2 1 (.slice (some ⟨g, 0, none⟩) n c) n (ints (rowF (fun k => (k : Int)) n))) (h40 : n ≤ 40) :
    Calls Try.prog 102 #[.slice (some ⟨g, 0, none⟩) n c, .func (.func F) #[] cb] w fun e w' => e = .returned (.tuple #[]) ∧ w'.ownsRow base 2 1 (.slice (some ⟨g, 0, none⟩) n c) n (ints (plL key n)) ∧ w.grownBy w' (some g) := by
  have hrow : Row w base g n c (fun k => (k : Int)) := h
  have hv : Vals (fun k => (k : Int)) n := fun k hk => by constructor <;> simp only <;> omega
  have HCON := Lib.hid (stable_any base g n c F cb cf key _ w eg hcmp hcf hrow hv h40)
  have HP := Lib.hid (stab_places key n)
  clear hcmp hcf hrow hv h
  go_enter Try.func102, Try.ntmps102
  go_wp2_with fail
  refine HCON.out.mono ?_; rintro e w1 ⟨rfl, hr1, hg1⟩
  unfold Row at hr1
  rw [HP.out] at hr1
  go_wp2
  go_end0
  exact ⟨rfl, hr1, hg1⟩
end Go.Proofs.Yteeaeomkpecflaa
