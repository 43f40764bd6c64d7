/- MergeDecks; in the reference. -/
import Derived.Test.YtdppmlchabogaaaMergeSpec
namespace Go.Proofs.Ytdppmlchabogaaa
open Go.RowKit

theorem l09Merge_n (D E : Option Addr) (c ce : Nat) (hs ks : List Hd) (K1 K2 : Option Addr) (n1 n2 c1 c2 : Nat) (i0 j0 : Nat) (w : World) (ha : RdD w w.heap.size D hs) (hb : RdD w w.heap.size E ks) (hoa : deckOk (cards hs) = true) (hob : deckOk (cards ks) = true) (hij : i0 < j0) (hja : j0 ≤ deckW (cards hs)) (hjb : j0 ≤ deckW (cards ks))
    (hva : haveF (cards hs) (i0 : Int) (j0 : Int) = true) (hvb : haveF (cards ks) (i0 : Int) (j0 : Int) = true) (hn1 : n1 = hs.length) (hn2 : n2 = ks.length) (hk1 : Rd w w.heap.size 1 K1 n1 (strs (keysL (cards hs) (i0 : Int) (j0 : Int)))) (hk2 : Rd w w.heap.size 1 K2 n2 (strs (keysL (cards ks) (i0 : Int) (j0 : Int))))
    (hl : hs.length + tot hs ≤ 1048576) (hl' : ks.length + tot ks ≤ 1048576) (hce : ks.length ≤ ce) (hs1 : (stepsL (cards hs) (i0 : Int) (j0 : Int) (cards hs).length).length = 0) (hs2 : (stepsL (cards ks) (i0 : Int) (j0 : Int) (cards ks).length).length = 0) :
    Calls Try.prog 136 #[.slice D hs.length c, .slice E ks.length ce, .slice K1 n1 c1, .slice K2 n2 c2] w fun e w' => ∃ G cg gs, e = .returned (.slice G gs.length cg) ∧
      cards gs = sortedL (cards hs ++ cards ks) (i0 : Int) (j0 : Int) ∧ ObD w' w.heap.size w'.heap.size 37 2 G cg gs ∧ Below w.heap.size w w' := by
  have h := l09Merge_any D E c ce hs ks K1 K2 n1 n2 c1 c2 i0 j0 w ha hb hoa hob hij hja hjb hva hvb hn1 hn2 hk1 hk2 hl hl' hce
  refine h.mono ?_
  rintro e w' ⟨G, cg, gs, h1, h2, h3, h4⟩
  refine ⟨G, cg, gs, h1, ?_, h3, h4⟩
  rw [h2, ← merge_sorts hoa hob hij hja hjb hs1 hs2, cards_length, cards_length]

set_option maxRecDepth 20000 in
set_option maxHeartbeats 8000000 in
theorem spMergeDecks_any (D : Option Addr) (c : Nat) (hs : List Hd) (L : List (List Int)) (E : Option Addr) (ce : Nat) (ks : List Hd) (M : List (List Int)) (a b : Int) (w : World) (hd : RdD w w.heap.size D hs) (hL : cards hs = L) (hl : hs.length + tot hs ≤ 1048576) (_hc : hs.length ≤ c) (he : RdD w w.heap.size E ks) (hM : cards ks = M) (hl' : ks.length + tot ks ≤ 1048576) (hc' : ks.length ≤ ce) :
    Calls Try.prog 27 #[.slice D hs.length c, .slice E ks.length ce, .agg #[.int .i64 a, .int .i64 b]] w fun e w' => ∃ F cf gs, e = .returned (.tuple #[.slice F gs.length cf, .int .i64 (mgeC L M a b)]) ∧ cards gs = mgeR L M a b ∧ ObD w' w.heap.size w'.heap.size 37 2 F cf gs ∧ Below w.heap.size w w' := by
  subst hL hM
  have HCA := Lib.hid (cards_length hs)
  have HCB := Lib.hid (cards_length ks)
  have T0 : Below w.heap.size w (w.alloc (.cells #[.int .i64 a, .int .i64 b] 27)) := ba (b0 w) _
  have rd := hd.a1 (.cells #[.int .i64 a, .int .i64 b] 27)
  have re := he.a1 (.cells #[.int .i64 a, .int .i64 b] 27)
  clear hd he
  by_cases hz : colC [cards hs, cards ks] true [] a b = 0
  · obtain ⟨o1, o2, f1, f2, v1, v2⟩ := colC_two hz
    obtain ⟨i, j, rfl, rfl, hij, hj1⟩ := fieldOk_nat f1
    have hj2 : j ≤ deckW (cards ks) := by have := fieldOk_true f2; omega
    have HZ := Lib.hid hz
    have HO1 := Lib.hid o1
    have HO2 := Lib.hid o2
    have HV1 := Lib.hid v1
    have HV2 := Lib.hid v2
    have HK1 := Lib.hid (twoK_0 (cards hs) hz)
    have HK2 := Lib.hid (twoK_0 (cards ks) hz)
    have HN1 := Lib.hid (show (twoK (cards hs) (cards ks) (cards hs) (i : Int) (j : Int)).length = hs.length by rw [HK1.out, keysL_length, cards_length])
    have HN2 := Lib.hid (show (twoK (cards hs) (cards ks) (cards ks) (i : Int) (j : Int)).length = ks.length by rw [HK2.out, keysL_length, cards_length])
    have HTWO := Lib.hid (l09Two_any D c hs E ce ks (i : Int) (j : Int) _ rd re hl (by omega))
    clear hz f1 f2 v1 v2
    rcases (show (¬ 0 < hs.length ∧ clashB (cards hs) (cards ks) = false) ∨ (0 < hs.length ∧ ¬ 0 < ks.length ∧ clashB (cards hs) (cards ks) = false) ∨ (0 < hs.length ∧ 0 < ks.length ∧ deckW (cards hs) = deckW (cards ks) ∧ clashB (cards hs) (cards ks) = false) ∨ (0 < hs.length ∧ 0 < ks.length ∧ deckW (cards hs) ≠ deckW (cards ks) ∧ clashB (cards hs) (cards ks) = true) from by
        unfold clashB
        rw [cards_length, cards_length]
        by_cases y1 : 0 < hs.length
        · by_cases y2 : 0 < ks.length
          · right; right
            by_cases y3 : deckW (cards hs) = deckW (cards ks)
            · exact .inl ⟨y1, y2, y3, by simp [y3]⟩
            · exact .inr ⟨y1, y2, y3, by simp [y1, y2, y3]⟩
          · exact .inr (.inl ⟨y1, y2, by simp [y2]⟩)
        · exact .inl ⟨y1, by simp [y1]⟩) with ⟨y1, hcl⟩ | ⟨y1, y2, hcl⟩ | ⟨y1, y2, y3, hcl⟩ | ⟨y1, y2, y3, hcl⟩
    · have i1 : ¬ (0 : Int) < (hs.length : Int) := by omega
      have HCLF := Lib.hid hcl
      clear hcl
      by_cases s1 : (stepsL (cards hs) (i : Int) (j : Int) (cards hs).length).length = 0
      · have z1 := steps_ge s1
        rw [HCA.out] at z1
        by_cases s2 : (stepsL (cards ks) (i : Int) (j : Int) (cards ks).length).length = 0
        · have z2 := steps_ge s2
          rw [HCB.out] at z2
          by_cases h40 : 40 < hs.length + ks.length
          · have HC := Lib.hid (mgeC_5 HZ.out HCLF.out ⟨s1, s2⟩ (by rw [HCA.out, HCB.out]; exact h40))
            have HR := Lib.hid (mgeR_1 (L := cards hs) (M := cards ks) (a := (i : Int)) (b := (j : Int)) (by rw [HC.out]; decide))
            have i8 : (40 : Int) < (hs.length : Int) + (ks.length : Int) := by omega
            clear s1 s2 h40 o1 o2
            go_enter Try.func27, Try.ntmps27
            go_wp2_with fail
            refine HTWO.out.mono ?_; rintro e w1 ⟨K1, c1, K2, c2, rfl, hk1, hk2, hb1⟩
            have e0 : colC [cards hs, cards ks] true [] (i : Int) (j : Int) = 0 := HZ.out
            have r1 := Rd.own hk1
            have r2 := Rd.own hk2
            rw [HN1.out, HK1.out] at r1
            rw [HN2.out, HK2.out] at r2
            rw [HN1.out, HN2.out]
            have rd1 := rd.up hb1
            have re1 := re.up hb1
            have T1 := bs T0 hb1
            clear hk1 hk2 hb1 rd re
            go_wp2_with fail
            refine wp_region_later (by kernel_rfl) (by kernel_rfl) ?_
            repeat (go_big_quiet_step (fail))
            refine wpQuiet_nil ?_
            intro u1 hv1
            replace r1 := r1.up hv1
            replace r2 := r2.up hv1
            replace rd1 := rd1.up hv1
            replace re1 := re1.up hv1
            replace T1 := bs T1 hv1
            clear hv1
            go_wp2_with fail
            refine (l07Step_any K1 c1 hs.length (cards hs) i j _ HCA.out HO1.out hij hj1 HV1.out r1).mono ?_; rintro e w2 ⟨rfl, hb2⟩
            have r1' := r1.up hb2
            have r2' := r2.up hb2
            have rd2 := rd1.up hb2
            have re2 := re1.up hb2
            have T2 := bs T1 hb2
            clear r1 r2 rd1 re1 hb2
            go_wp2_with fail
            refine (l07Step_any K2 c2 ks.length (cards ks) i j _ HCB.out HO2.out hij hj2 HV2.out r2').mono ?_; rintro e w3 ⟨rfl, hb3⟩
            go_wp2
            go_ret2
            exact ⟨none, 0, [], ret_dd HC.out.symm, HR.out.symm, ObD.nil _ _ _ _ _, bs T2 hb3⟩
          · have HC := Lib.hid (mgeC_0 HZ.out HCLF.out ⟨s1, s2⟩ (by rw [HCA.out, HCB.out]; exact h40))
            have HR := Lib.hid (mgeR_0 HC.out)
            have HS := Lib.hid (And.intro s1 s2)
            have i8 : ¬ (40 : Int) < (hs.length : Int) + (ks.length : Int) := by omega
            clear s1 s2 h40 o1 o2
            go_enter Try.func27, Try.ntmps27
            go_wp2_with fail
            refine HTWO.out.mono ?_; rintro e w1 ⟨K1, c1, K2, c2, rfl, hk1, hk2, hb1⟩
            have e0 : colC [cards hs, cards ks] true [] (i : Int) (j : Int) = 0 := HZ.out
            have r1 := Rd.own hk1
            have r2 := Rd.own hk2
            rw [HN1.out, HK1.out] at r1
            rw [HN2.out, HK2.out] at r2
            rw [HN1.out, HN2.out]
            have rd1 := rd.up hb1
            have re1 := re.up hb1
            have T1 := bs T0 hb1
            clear hk1 hk2 hb1 rd re
            go_wp2_with fail
            refine wp_region_later (by kernel_rfl) (by kernel_rfl) ?_
            repeat (go_big_quiet_step (fail))
            refine wpQuiet_nil ?_
            intro u1 hv1
            replace r1 := r1.up hv1
            replace r2 := r2.up hv1
            replace rd1 := rd1.up hv1
            replace re1 := re1.up hv1
            replace T1 := bs T1 hv1
            clear hv1
            go_wp2_with fail
            refine (l07Step_any K1 c1 hs.length (cards hs) i j _ HCA.out HO1.out hij hj1 HV1.out r1).mono ?_; rintro e w2 ⟨rfl, hb2⟩
            have r1' := r1.up hb2
            have r2' := r2.up hb2
            have rd2 := rd1.up hb2
            have re2 := re1.up hb2
            have T2 := bs T1 hb2
            clear r1 r2 rd1 re1 hb2
            go_wp2_with fail
            refine (l07Step_any K2 c2 ks.length (cards ks) i j _ HCB.out HO2.out hij hj2 HV2.out r2').mono ?_; rintro e w3 ⟨rfl, hb3⟩
            have r1 := r1'.up hb3
            have r2 := r2'.up hb3
            have rd3 := rd2.up hb3
            have re3 := re2.up hb3
            have T3 := bs T2 hb3
            clear r1' r2' rd2 re2 hb3 T2 e0
            go_wp2_with fail
            refine (l09Merge_n _ _ c ce hs ks K1 K2 hs.length ks.length c1 c2 i j _ rd3 re3 HO1.out HO2.out hij hj1 hj2 HV1.out HV2.out rfl rfl r1 r2 hl hl' hc' HS.out.1 HS.out.2).mono ?_; rintro e w4 ⟨G, cg, gs, rfl, hgc, hob, hb4⟩
            have HGC := Lib.hid hgc
            clear hgc
            go_wp2
            go_ret2
            exact ⟨G, cg, gs, ret_dd HC.out.symm, by rw [HGC.out, HR.out], hob.mono T3.size (Nat.le_refl _), bs T3 hb4⟩
        · have z2 := steps_ge' s2
          rw [HCB.out] at z2
          have HC := Lib.hid (mgeC_6 HZ.out HCLF.out (fun h => s2 h.2))
          have HR := Lib.hid (mgeR_1 (L := cards hs) (M := cards ks) (a := (i : Int)) (b := (j : Int)) (by rw [HC.out]; decide))
          clear s1 s2 o1 o2
          go_enter Try.func27, Try.ntmps27
          go_wp2_with fail
          refine HTWO.out.mono ?_; rintro e w1 ⟨K1, c1, K2, c2, rfl, hk1, hk2, hb1⟩
          have e0 : colC [cards hs, cards ks] true [] (i : Int) (j : Int) = 0 := HZ.out
          have r1 := Rd.own hk1
          have r2 := Rd.own hk2
          rw [HN1.out, HK1.out] at r1
          rw [HN2.out, HK2.out] at r2
          rw [HN1.out, HN2.out]
          have rd1 := rd.up hb1
          have re1 := re.up hb1
          have T1 := bs T0 hb1
          clear hk1 hk2 hb1 rd re
          go_wp2_with fail
          refine wp_region_later (by kernel_rfl) (by kernel_rfl) ?_
          repeat (go_big_quiet_step (fail))
          refine wpQuiet_nil ?_
          intro u1 hv1
          replace r1 := r1.up hv1
          replace r2 := r2.up hv1
          replace rd1 := rd1.up hv1
          replace re1 := re1.up hv1
          replace T1 := bs T1 hv1
          clear hv1
          go_wp2_with fail
          refine (l07Step_any K1 c1 hs.length (cards hs) i j _ HCA.out HO1.out hij hj1 HV1.out r1).mono ?_; rintro e w2 ⟨rfl, hb2⟩
          have r1' := r1.up hb2
          have r2' := r2.up hb2
          have rd2 := rd1.up hb2
          have re2 := re1.up hb2
          have T2 := bs T1 hb2
          clear r1 r2 rd1 re1 hb2
          go_wp2_with fail
          refine (l07Step_any K2 c2 ks.length (cards ks) i j _ HCB.out HO2.out hij hj2 HV2.out r2').mono ?_; rintro e w3 ⟨rfl, hb3⟩
          go_wp2
          go_ret2
          exact ⟨none, 0, [], ret_dd HC.out.symm, HR.out.symm, ObD.nil _ _ _ _ _, bs T2 hb3⟩
      · have z1 := steps_ge' s1
        rw [HCA.out] at z1
        have HC := Lib.hid (mgeC_6 HZ.out HCLF.out (fun h => s1 h.1))
        have HR := Lib.hid (mgeR_1 (L := cards hs) (M := cards ks) (a := (i : Int)) (b := (j : Int)) (by rw [HC.out]; decide))
        clear s1 o1 o2
        go_enter Try.func27, Try.ntmps27
        go_wp2_with fail
        refine HTWO.out.mono ?_; rintro e w1 ⟨K1, c1, K2, c2, rfl, hk1, hk2, hb1⟩
        have e0 : colC [cards hs, cards ks] true [] (i : Int) (j : Int) = 0 := HZ.out
        have r1 := Rd.own hk1
        have r2 := Rd.own hk2
        rw [HN1.out, HK1.out] at r1
        rw [HN2.out, HK2.out] at r2
        rw [HN1.out, HN2.out]
        have rd1 := rd.up hb1
        have re1 := re.up hb1
        have T1 := bs T0 hb1
        clear hk1 hk2 hb1 rd re
        go_wp2_with fail
        refine wp_region_later (by kernel_rfl) (by kernel_rfl) ?_
        repeat (go_big_quiet_step (fail))
        refine wpQuiet_nil ?_
        intro u1 hv1
        replace r1 := r1.up hv1
        replace r2 := r2.up hv1
        replace rd1 := rd1.up hv1
        replace re1 := re1.up hv1
        replace T1 := bs T1 hv1
        clear hv1
        go_wp2_with fail
        refine (l07Step_any K1 c1 hs.length (cards hs) i j _ HCA.out HO1.out hij hj1 HV1.out r1).mono ?_; rintro e w2 ⟨rfl, hb2⟩
        go_wp2
        go_ret2
        exact ⟨none, 0, [], ret_dd HC.out.symm, HR.out.symm, ObD.nil _ _ _ _ _, bs T1 hb2⟩
    · have i1 : (0 : Int) < (hs.length : Int) := by omega
      have i2 : ¬ (0 : Int) < (ks.length : Int) := by omega
      have HCLF := Lib.hid hcl
      clear hcl
      by_cases s1 : (stepsL (cards hs) (i : Int) (j : Int) (cards hs).length).length = 0
      · have z1 := steps_ge s1
        rw [HCA.out] at z1
        by_cases s2 : (stepsL (cards ks) (i : Int) (j : Int) (cards ks).length).length = 0
        · have z2 := steps_ge s2
          rw [HCB.out] at z2
          by_cases h40 : 40 < hs.length + ks.length
          · have HC := Lib.hid (mgeC_5 HZ.out HCLF.out ⟨s1, s2⟩ (by rw [HCA.out, HCB.out]; exact h40))
            have HR := Lib.hid (mgeR_1 (L := cards hs) (M := cards ks) (a := (i : Int)) (b := (j : Int)) (by rw [HC.out]; decide))
            have i8 : (40 : Int) < (hs.length : Int) + (ks.length : Int) := by omega
            clear s1 s2 h40 o1 o2
            go_enter Try.func27, Try.ntmps27
            go_wp2_with fail
            refine HTWO.out.mono ?_; rintro e w1 ⟨K1, c1, K2, c2, rfl, hk1, hk2, hb1⟩
            have e0 : colC [cards hs, cards ks] true [] (i : Int) (j : Int) = 0 := HZ.out
            have r1 := Rd.own hk1
            have r2 := Rd.own hk2
            rw [HN1.out, HK1.out] at r1
            rw [HN2.out, HK2.out] at r2
            rw [HN1.out, HN2.out]
            have rd1 := rd.up hb1
            have re1 := re.up hb1
            have T1 := bs T0 hb1
            clear hk1 hk2 hb1 rd re
            go_wp2_with fail
            refine wp_region_later (by kernel_rfl) (by kernel_rfl) ?_
            repeat (go_big_quiet_step (fail))
            refine wpQuiet_nil ?_
            intro u1 hv1
            replace r1 := r1.up hv1
            replace r2 := r2.up hv1
            replace rd1 := rd1.up hv1
            replace re1 := re1.up hv1
            replace T1 := bs T1 hv1
            clear hv1
            go_wp2_with fail
            refine (l07Step_any K1 c1 hs.length (cards hs) i j _ HCA.out HO1.out hij hj1 HV1.out r1).mono ?_; rintro e w2 ⟨rfl, hb2⟩
            have r1' := r1.up hb2
            have r2' := r2.up hb2
            have rd2 := rd1.up hb2
            have re2 := re1.up hb2
            have T2 := bs T1 hb2
            clear r1 r2 rd1 re1 hb2
            go_wp2_with fail
            refine (l07Step_any K2 c2 ks.length (cards ks) i j _ HCB.out HO2.out hij hj2 HV2.out r2').mono ?_; rintro e w3 ⟨rfl, hb3⟩
            go_wp2
            go_ret2
            exact ⟨none, 0, [], ret_dd HC.out.symm, HR.out.symm, ObD.nil _ _ _ _ _, bs T2 hb3⟩
          · have HC := Lib.hid (mgeC_0 HZ.out HCLF.out ⟨s1, s2⟩ (by rw [HCA.out, HCB.out]; exact h40))
            have HR := Lib.hid (mgeR_0 HC.out)
            have HS := Lib.hid (And.intro s1 s2)
            have i8 : ¬ (40 : Int) < (hs.length : Int) + (ks.length : Int) := by omega
            clear s1 s2 h40 o1 o2
            go_enter Try.func27, Try.ntmps27
            go_wp2_with fail
            refine HTWO.out.mono ?_; rintro e w1 ⟨K1, c1, K2, c2, rfl, hk1, hk2, hb1⟩
            have e0 : colC [cards hs, cards ks] true [] (i : Int) (j : Int) = 0 := HZ.out
            have r1 := Rd.own hk1
            have r2 := Rd.own hk2
            rw [HN1.out, HK1.out] at r1
            rw [HN2.out, HK2.out] at r2
            rw [HN1.out, HN2.out]
            have rd1 := rd.up hb1
            have re1 := re.up hb1
            have T1 := bs T0 hb1
            clear hk1 hk2 hb1 rd re
            go_wp2_with fail
            refine wp_region_later (by kernel_rfl) (by kernel_rfl) ?_
            repeat (go_big_quiet_step (fail))
            refine wpQuiet_nil ?_
            intro u1 hv1
            replace r1 := r1.up hv1
            replace r2 := r2.up hv1
            replace rd1 := rd1.up hv1
            replace re1 := re1.up hv1
            replace T1 := bs T1 hv1
            clear hv1
            go_wp2_with fail
            refine (l07Step_any K1 c1 hs.length (cards hs) i j _ HCA.out HO1.out hij hj1 HV1.out r1).mono ?_; rintro e w2 ⟨rfl, hb2⟩
            have r1' := r1.up hb2
            have r2' := r2.up hb2
            have rd2 := rd1.up hb2
            have re2 := re1.up hb2
            have T2 := bs T1 hb2
            clear r1 r2 rd1 re1 hb2
            go_wp2_with fail
            refine (l07Step_any K2 c2 ks.length (cards ks) i j _ HCB.out HO2.out hij hj2 HV2.out r2').mono ?_; rintro e w3 ⟨rfl, hb3⟩
            have r1 := r1'.up hb3
            have r2 := r2'.up hb3
            have rd3 := rd2.up hb3
            have re3 := re2.up hb3
            have T3 := bs T2 hb3
            clear r1' r2' rd2 re2 hb3 T2 e0
            go_wp2_with fail
            refine (l09Merge_n _ _ c ce hs ks K1 K2 hs.length ks.length c1 c2 i j _ rd3 re3 HO1.out HO2.out hij hj1 hj2 HV1.out HV2.out rfl rfl r1 r2 hl hl' hc' HS.out.1 HS.out.2).mono ?_; rintro e w4 ⟨G, cg, gs, rfl, hgc, hob, hb4⟩
            have HGC := Lib.hid hgc
            clear hgc
            go_wp2
            go_ret2
            exact ⟨G, cg, gs, ret_dd HC.out.symm, by rw [HGC.out, HR.out], hob.mono T3.size (Nat.le_refl _), bs T3 hb4⟩
        · have z2 := steps_ge' s2
          rw [HCB.out] at z2
          have HC := Lib.hid (mgeC_6 HZ.out HCLF.out (fun h => s2 h.2))
          have HR := Lib.hid (mgeR_1 (L := cards hs) (M := cards ks) (a := (i : Int)) (b := (j : Int)) (by rw [HC.out]; decide))
          clear s1 s2 o1 o2
          go_enter Try.func27, Try.ntmps27
          go_wp2_with fail
          refine HTWO.out.mono ?_; rintro e w1 ⟨K1, c1, K2, c2, rfl, hk1, hk2, hb1⟩
          have e0 : colC [cards hs, cards ks] true [] (i : Int) (j : Int) = 0 := HZ.out
          have r1 := Rd.own hk1
          have r2 := Rd.own hk2
          rw [HN1.out, HK1.out] at r1
          rw [HN2.out, HK2.out] at r2
          rw [HN1.out, HN2.out]
          have rd1 := rd.up hb1
          have re1 := re.up hb1
          have T1 := bs T0 hb1
          clear hk1 hk2 hb1 rd re
          go_wp2_with fail
          refine wp_region_later (by kernel_rfl) (by kernel_rfl) ?_
          repeat (go_big_quiet_step (fail))
          refine wpQuiet_nil ?_
          intro u1 hv1
          replace r1 := r1.up hv1
          replace r2 := r2.up hv1
          replace rd1 := rd1.up hv1
          replace re1 := re1.up hv1
          replace T1 := bs T1 hv1
          clear hv1
          go_wp2_with fail
          refine (l07Step_any K1 c1 hs.length (cards hs) i j _ HCA.out HO1.out hij hj1 HV1.out r1).mono ?_; rintro e w2 ⟨rfl, hb2⟩
          have r1' := r1.up hb2
          have r2' := r2.up hb2
          have rd2 := rd1.up hb2
          have re2 := re1.up hb2
          have T2 := bs T1 hb2
          clear r1 r2 rd1 re1 hb2
          go_wp2_with fail
          refine (l07Step_any K2 c2 ks.length (cards ks) i j _ HCB.out HO2.out hij hj2 HV2.out r2').mono ?_; rintro e w3 ⟨rfl, hb3⟩
          go_wp2
          go_ret2
          exact ⟨none, 0, [], ret_dd HC.out.symm, HR.out.symm, ObD.nil _ _ _ _ _, bs T2 hb3⟩
      · have z1 := steps_ge' s1
        rw [HCA.out] at z1
        have HC := Lib.hid (mgeC_6 HZ.out HCLF.out (fun h => s1 h.1))
        have HR := Lib.hid (mgeR_1 (L := cards hs) (M := cards ks) (a := (i : Int)) (b := (j : Int)) (by rw [HC.out]; decide))
        clear s1 o1 o2
        go_enter Try.func27, Try.ntmps27
        go_wp2_with fail
        refine HTWO.out.mono ?_; rintro e w1 ⟨K1, c1, K2, c2, rfl, hk1, hk2, hb1⟩
        have e0 : colC [cards hs, cards ks] true [] (i : Int) (j : Int) = 0 := HZ.out
        have r1 := Rd.own hk1
        have r2 := Rd.own hk2
        rw [HN1.out, HK1.out] at r1
        rw [HN2.out, HK2.out] at r2
        rw [HN1.out, HN2.out]
        have rd1 := rd.up hb1
        have re1 := re.up hb1
        have T1 := bs T0 hb1
        clear hk1 hk2 hb1 rd re
        go_wp2_with fail
        refine wp_region_later (by kernel_rfl) (by kernel_rfl) ?_
        repeat (go_big_quiet_step (fail))
        refine wpQuiet_nil ?_
        intro u1 hv1
        replace r1 := r1.up hv1
        replace r2 := r2.up hv1
        replace rd1 := rd1.up hv1
        replace re1 := re1.up hv1
        replace T1 := bs T1 hv1
        clear hv1
        go_wp2_with fail
        refine (l07Step_any K1 c1 hs.length (cards hs) i j _ HCA.out HO1.out hij hj1 HV1.out r1).mono ?_; rintro e w2 ⟨rfl, hb2⟩
        go_wp2
        go_ret2
        exact ⟨none, 0, [], ret_dd HC.out.symm, HR.out.symm, ObD.nil _ _ _ _ _, bs T1 hb2⟩
    · have i1 : (0 : Int) < (hs.length : Int) := by omega
      have i2 : (0 : Int) < (ks.length : Int) := by omega
      have DW := Lib.hid (show hs[0].xs.length = ks[0].xs.length by rw [← deckW_pos y1, ← deckW_pos y2]; exact y3)
      have HCLF := Lib.hid hcl
      clear hcl
      by_cases s1 : (stepsL (cards hs) (i : Int) (j : Int) (cards hs).length).length = 0
      · have z1 := steps_ge s1
        rw [HCA.out] at z1
        by_cases s2 : (stepsL (cards ks) (i : Int) (j : Int) (cards ks).length).length = 0
        · have z2 := steps_ge s2
          rw [HCB.out] at z2
          by_cases h40 : 40 < hs.length + ks.length
          · have HC := Lib.hid (mgeC_5 HZ.out HCLF.out ⟨s1, s2⟩ (by rw [HCA.out, HCB.out]; exact h40))
            have HR := Lib.hid (mgeR_1 (L := cards hs) (M := cards ks) (a := (i : Int)) (b := (j : Int)) (by rw [HC.out]; decide))
            have i8 : (40 : Int) < (hs.length : Int) + (ks.length : Int) := by omega
            clear s1 s2 h40 o1 o2
            go_enter Try.func27, Try.ntmps27
            go_wp2_with fail
            refine HTWO.out.mono ?_; rintro e w1 ⟨K1, c1, K2, c2, rfl, hk1, hk2, hb1⟩
            have e0 : colC [cards hs, cards ks] true [] (i : Int) (j : Int) = 0 := HZ.out
            have r1 := Rd.own hk1
            have r2 := Rd.own hk2
            rw [HN1.out, HK1.out] at r1
            rw [HN2.out, HK2.out] at r2
            rw [HN1.out, HN2.out]
            have rd1 := rd.up hb1
            have re1 := re.up hb1
            have T1 := bs T0 hb1
            clear hk1 hk2 hb1 rd re
            obtain ⟨p1, q1, hD, _, hcA⟩ := rd1.at_ y1
            have d1 := hcA 0 y1
            rw [Nat.add_zero] at d1
            obtain ⟨p2, q2, hE, _, hcB⟩ := re1.at_ y2
            have d2 := hcB 0 y2
            rw [Nat.add_zero] at d2
            subst hD
            subst hE
            have i3 : ((hs[0].xs.length : Int) != (ks[0].xs.length : Int)) = false := bne_f (by have := DW.out; omega)
            have l1 := fun x : Later w1 => lat_cell x d1
            have l2 := fun x : Later w1 => lat_cell x d2
            clear hcA hcB d1 d2
            go_wp2_with fail
            refine wp_region_later (by kernel_rfl) (by kernel_rfl) ?_
            repeat (go_big_quiet_step (fail))
            refine wpQuiet_nil ?_
            intro u1 hv1
            replace r1 := r1.up hv1
            replace r2 := r2.up hv1
            replace rd1 := rd1.up hv1
            replace re1 := re1.up hv1
            replace T1 := bs T1 hv1
            clear hv1
            clear l1 l2 i3
            go_wp2_with fail
            refine (l07Step_any K1 c1 hs.length (cards hs) i j _ HCA.out HO1.out hij hj1 HV1.out r1).mono ?_; rintro e w2 ⟨rfl, hb2⟩
            have r1' := r1.up hb2
            have r2' := r2.up hb2
            have rd2 := rd1.up hb2
            have re2 := re1.up hb2
            have T2 := bs T1 hb2
            clear r1 r2 rd1 re1 hb2
            go_wp2_with fail
            refine (l07Step_any K2 c2 ks.length (cards ks) i j _ HCB.out HO2.out hij hj2 HV2.out r2').mono ?_; rintro e w3 ⟨rfl, hb3⟩
            go_wp2
            go_ret2
            exact ⟨none, 0, [], ret_dd HC.out.symm, HR.out.symm, ObD.nil _ _ _ _ _, bs T2 hb3⟩
          · have HC := Lib.hid (mgeC_0 HZ.out HCLF.out ⟨s1, s2⟩ (by rw [HCA.out, HCB.out]; exact h40))
            have HR := Lib.hid (mgeR_0 HC.out)
            have HS := Lib.hid (And.intro s1 s2)
            have i8 : ¬ (40 : Int) < (hs.length : Int) + (ks.length : Int) := by omega
            clear s1 s2 h40 o1 o2
            go_enter Try.func27, Try.ntmps27
            go_wp2_with fail
            refine HTWO.out.mono ?_; rintro e w1 ⟨K1, c1, K2, c2, rfl, hk1, hk2, hb1⟩
            have e0 : colC [cards hs, cards ks] true [] (i : Int) (j : Int) = 0 := HZ.out
            have r1 := Rd.own hk1
            have r2 := Rd.own hk2
            rw [HN1.out, HK1.out] at r1
            rw [HN2.out, HK2.out] at r2
            rw [HN1.out, HN2.out]
            have rd1 := rd.up hb1
            have re1 := re.up hb1
            have T1 := bs T0 hb1
            clear hk1 hk2 hb1 rd re
            obtain ⟨p1, q1, hD, _, hcA⟩ := rd1.at_ y1
            have d1 := hcA 0 y1
            rw [Nat.add_zero] at d1
            obtain ⟨p2, q2, hE, _, hcB⟩ := re1.at_ y2
            have d2 := hcB 0 y2
            rw [Nat.add_zero] at d2
            subst hD
            subst hE
            have i3 : ((hs[0].xs.length : Int) != (ks[0].xs.length : Int)) = false := bne_f (by have := DW.out; omega)
            have l1 := fun x : Later w1 => lat_cell x d1
            have l2 := fun x : Later w1 => lat_cell x d2
            clear hcA hcB d1 d2
            go_wp2_with fail
            refine wp_region_later (by kernel_rfl) (by kernel_rfl) ?_
            repeat (go_big_quiet_step (fail))
            refine wpQuiet_nil ?_
            intro u1 hv1
            replace r1 := r1.up hv1
            replace r2 := r2.up hv1
            replace rd1 := rd1.up hv1
            replace re1 := re1.up hv1
            replace T1 := bs T1 hv1
            clear hv1
            clear l1 l2 i3
            go_wp2_with fail
            refine (l07Step_any K1 c1 hs.length (cards hs) i j _ HCA.out HO1.out hij hj1 HV1.out r1).mono ?_; rintro e w2 ⟨rfl, hb2⟩
            have r1' := r1.up hb2
            have r2' := r2.up hb2
            have rd2 := rd1.up hb2
            have re2 := re1.up hb2
            have T2 := bs T1 hb2
            clear r1 r2 rd1 re1 hb2
            go_wp2_with fail
            refine (l07Step_any K2 c2 ks.length (cards ks) i j _ HCB.out HO2.out hij hj2 HV2.out r2').mono ?_; rintro e w3 ⟨rfl, hb3⟩
            have r1 := r1'.up hb3
            have r2 := r2'.up hb3
            have rd3 := rd2.up hb3
            have re3 := re2.up hb3
            have T3 := bs T2 hb3
            clear r1' r2' rd2 re2 hb3 T2 e0
            go_wp2_with fail
            refine (l09Merge_n _ _ c ce hs ks K1 K2 hs.length ks.length c1 c2 i j _ rd3 re3 HO1.out HO2.out hij hj1 hj2 HV1.out HV2.out rfl rfl r1 r2 hl hl' hc' HS.out.1 HS.out.2).mono ?_; rintro e w4 ⟨G, cg, gs, rfl, hgc, hob, hb4⟩
            have HGC := Lib.hid hgc
            clear hgc
            go_wp2
            go_ret2
            exact ⟨G, cg, gs, ret_dd HC.out.symm, by rw [HGC.out, HR.out], hob.mono T3.size (Nat.le_refl _), bs T3 hb4⟩
        · have z2 := steps_ge' s2
          rw [HCB.out] at z2
          have HC := Lib.hid (mgeC_6 HZ.out HCLF.out (fun h => s2 h.2))
          have HR := Lib.hid (mgeR_1 (L := cards hs) (M := cards ks) (a := (i : Int)) (b := (j : Int)) (by rw [HC.out]; decide))
          clear s1 s2 o1 o2
          go_enter Try.func27, Try.ntmps27
          go_wp2_with fail
          refine HTWO.out.mono ?_; rintro e w1 ⟨K1, c1, K2, c2, rfl, hk1, hk2, hb1⟩
          have e0 : colC [cards hs, cards ks] true [] (i : Int) (j : Int) = 0 := HZ.out
          have r1 := Rd.own hk1
          have r2 := Rd.own hk2
          rw [HN1.out, HK1.out] at r1
          rw [HN2.out, HK2.out] at r2
          rw [HN1.out, HN2.out]
          have rd1 := rd.up hb1
          have re1 := re.up hb1
          have T1 := bs T0 hb1
          clear hk1 hk2 hb1 rd re
          obtain ⟨p1, q1, hD, _, hcA⟩ := rd1.at_ y1
          have d1 := hcA 0 y1
          rw [Nat.add_zero] at d1
          obtain ⟨p2, q2, hE, _, hcB⟩ := re1.at_ y2
          have d2 := hcB 0 y2
          rw [Nat.add_zero] at d2
          subst hD
          subst hE
          have i3 : ((hs[0].xs.length : Int) != (ks[0].xs.length : Int)) = false := bne_f (by have := DW.out; omega)
          have l1 := fun x : Later w1 => lat_cell x d1
          have l2 := fun x : Later w1 => lat_cell x d2
          clear hcA hcB d1 d2
          go_wp2_with fail
          refine wp_region_later (by kernel_rfl) (by kernel_rfl) ?_
          repeat (go_big_quiet_step (fail))
          refine wpQuiet_nil ?_
          intro u1 hv1
          replace r1 := r1.up hv1
          replace r2 := r2.up hv1
          replace rd1 := rd1.up hv1
          replace re1 := re1.up hv1
          replace T1 := bs T1 hv1
          clear hv1
          clear l1 l2 i3
          go_wp2_with fail
          refine (l07Step_any K1 c1 hs.length (cards hs) i j _ HCA.out HO1.out hij hj1 HV1.out r1).mono ?_; rintro e w2 ⟨rfl, hb2⟩
          have r1' := r1.up hb2
          have r2' := r2.up hb2
          have rd2 := rd1.up hb2
          have re2 := re1.up hb2
          have T2 := bs T1 hb2
          clear r1 r2 rd1 re1 hb2
          go_wp2_with fail
          refine (l07Step_any K2 c2 ks.length (cards ks) i j _ HCB.out HO2.out hij hj2 HV2.out r2').mono ?_; rintro e w3 ⟨rfl, hb3⟩
          go_wp2
          go_ret2
          exact ⟨none, 0, [], ret_dd HC.out.symm, HR.out.symm, ObD.nil _ _ _ _ _, bs T2 hb3⟩
      · have z1 := steps_ge' s1
        rw [HCA.out] at z1
        have HC := Lib.hid (mgeC_6 HZ.out HCLF.out (fun h => s1 h.1))
        have HR := Lib.hid (mgeR_1 (L := cards hs) (M := cards ks) (a := (i : Int)) (b := (j : Int)) (by rw [HC.out]; decide))
        clear s1 o1 o2
        go_enter Try.func27, Try.ntmps27
        go_wp2_with fail
        refine HTWO.out.mono ?_; rintro e w1 ⟨K1, c1, K2, c2, rfl, hk1, hk2, hb1⟩
        have e0 : colC [cards hs, cards ks] true [] (i : Int) (j : Int) = 0 := HZ.out
        have r1 := Rd.own hk1
        have r2 := Rd.own hk2
        rw [HN1.out, HK1.out] at r1
        rw [HN2.out, HK2.out] at r2
        rw [HN1.out, HN2.out]
        have rd1 := rd.up hb1
        have re1 := re.up hb1
        have T1 := bs T0 hb1
        clear hk1 hk2 hb1 rd re
        obtain ⟨p1, q1, hD, _, hcA⟩ := rd1.at_ y1
        have d1 := hcA 0 y1
        rw [Nat.add_zero] at d1
        obtain ⟨p2, q2, hE, _, hcB⟩ := re1.at_ y2
        have d2 := hcB 0 y2
        rw [Nat.add_zero] at d2
        subst hD
        subst hE
        have i3 : ((hs[0].xs.length : Int) != (ks[0].xs.length : Int)) = false := bne_f (by have := DW.out; omega)
        have l1 := fun x : Later w1 => lat_cell x d1
        have l2 := fun x : Later w1 => lat_cell x d2
        clear hcA hcB d1 d2
        go_wp2_with fail
        refine wp_region_later (by kernel_rfl) (by kernel_rfl) ?_
        repeat (go_big_quiet_step (fail))
        refine wpQuiet_nil ?_
        intro u1 hv1
        replace r1 := r1.up hv1
        replace r2 := r2.up hv1
        replace rd1 := rd1.up hv1
        replace re1 := re1.up hv1
        replace T1 := bs T1 hv1
        clear hv1
        clear l1 l2 i3
        go_wp2_with fail
        refine (l07Step_any K1 c1 hs.length (cards hs) i j _ HCA.out HO1.out hij hj1 HV1.out r1).mono ?_; rintro e w2 ⟨rfl, hb2⟩
        go_wp2
        go_ret2
        exact ⟨none, 0, [], ret_dd HC.out.symm, HR.out.symm, ObD.nil _ _ _ _ _, bs T1 hb2⟩
    · have i1 : (0 : Int) < (hs.length : Int) := by omega
      have i2 : (0 : Int) < (ks.length : Int) := by omega
      have DW := Lib.hid (show ¬ hs[0].xs.length = ks[0].xs.length by rw [← deckW_pos y1, ← deckW_pos y2]; exact y3)
      have HC := Lib.hid (mgeC_9 HZ.out hcl)
      have HR := Lib.hid (mgeR_1 (L := cards hs) (M := cards ks) (a := (i : Int)) (b := (j : Int)) (by rw [HC.out]; decide))
      clear hcl o1 o2
      go_enter Try.func27, Try.ntmps27
      go_wp2_with fail
      refine HTWO.out.mono ?_; rintro e w1 ⟨K1, c1, K2, c2, rfl, hk1, hk2, hb1⟩
      have e0 : colC [cards hs, cards ks] true [] (i : Int) (j : Int) = 0 := HZ.out
      have r1 := Rd.own hk1
      have r2 := Rd.own hk2
      rw [HN1.out, HK1.out] at r1
      rw [HN2.out, HK2.out] at r2
      rw [HN1.out, HN2.out]
      have rd1 := rd.up hb1
      have re1 := re.up hb1
      have T1 := bs T0 hb1
      clear hk1 hk2 hb1 rd re
      obtain ⟨p1, q1, hD, _, hcA⟩ := rd1.at_ y1
      have d1 := hcA 0 y1
      rw [Nat.add_zero] at d1
      obtain ⟨p2, q2, hE, _, hcB⟩ := re1.at_ y2
      have d2 := hcB 0 y2
      rw [Nat.add_zero] at d2
      subst hD
      subst hE
      have i3 : ((hs[0].xs.length : Int) != (ks[0].xs.length : Int)) = true := bne_t (by have := DW.out; omega)
      have l1 := fun x : Later w1 => lat_cell x d1
      have l2 := fun x : Later w1 => lat_cell x d2
      clear hcA hcB d1 d2
      go_wp2_with fail
      refine wp_region_later (by kernel_rfl) (by kernel_rfl) ?_
      repeat (go_big_quiet_step (fail))
      refine wpQuiet_nil ?_
      intro u1 hv1
      replace r1 := r1.up hv1
      replace r2 := r2.up hv1
      replace rd1 := rd1.up hv1
      replace re1 := re1.up hv1
      replace T1 := bs T1 hv1
      clear hv1
      go_wp2
      go_ret2
      exact ⟨none, 0, [], ret_dd HC.out.symm, HR.out.symm, ObD.nil _ _ _ _ _, T1⟩
  · have HC := Lib.hid (mgeC_e hz)
    have HR := Lib.hid (mgeR_1 (L := cards hs) (M := cards ks) (a := a) (b := b) (by rw [HC.out]; exact hz))
    have HTWO := Lib.hid (l09Two_any D c hs E ce ks a b _ rd re hl (by omega))
    have e1 := bne_t hz
    clear hz
    go_enter Try.func27, Try.ntmps27
    go_wp2_with fail
    refine HTWO.out.mono ?_; rintro e w1 ⟨K1, c1, K2, c2, rfl, hk1, hk2, hb1⟩
    go_wp2
    go_ret2
    exact ⟨none, 0, [], ret_dd HC.out.symm, HR.out.symm, ObD.nil _ _ _ _ _, bs T0 hb1⟩
theorem mgeC_deck {L M : List (List Int)} {a b : Int} (h : mgeC L M a b = 0) : deckOk (L ++ M) = true := by
  unfold mgeC at h
  split at h
  · rename_i h1
    obtain ⟨o1, o2, _⟩ := colC_two h1
    split at h
    · omega
    · rename_i h2
      split at h
      · split at h
        · omega
        · rename_i h4
          exact (deckOk_append o1 o2 (by simpa using h2) (by omega)).1
      · omega
  · rename_i h1
    exact absurd h h1
theorem mgeR_bnd (L M : List (List Int)) (a b : Int) {gs : List Hd} (h : cards gs = mgeR L M a b) : gs.length + tot gs ≤ 840 := mgeR_bound L M a b h mgeC_deck
end Go.Proofs.Ytdppmlchabogaaa
