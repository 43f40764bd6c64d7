/- The law FnFewest answers true at every input, and its arguments stay as they were; conditions: none. -/
import Derived.Test.YtkcnahjgkhgebaaGreatRows
import Derived.Test.YtkcnahjgkhgebaaGreatLawBase
import Derived.Test.YtkcnahjgkhgebaaGreatOpenBytes
import Derived.Test.YtkcnahjgkhgebaaGreatA2
import Derived.Test.YtkcnahjgkhgebaaGreatFewMin
import Derived.Test.YtkcnahjgkhgebaaGreatFewImpl
import Derived.Test.YtkcnahjgkhgebaaGreatCuts
namespace Go.Proofs.YtkcnahjgkhgebaaGreat
open Go.RowKit Go.ChangeShapes Go.WideShapes Go.ChangeAt

set_option maxRecDepth 100000 in
set_option maxHeartbeats 16000000 in
theorem lawFewest_any (A : Option Addr) (n c : Nat) (bs0 : List UInt8) (B : Option Addr) (n' c' : Nat) (cs0 : List UInt8) (w : World) (ha : Rd w w.heap.size 1 A n (byts bs0)) (hb : Rd w w.heap.size 1 B n' (byts cs0)) :
    Calls Tryz.prog 4 #[.slice A n c, .slice B n' c'] w fun e w' => e = .returned (.bool true) ∧ Below w.heap.size w w' := by
  obtain ⟨i0, hi, hi0, hi1, hi2⟩ := info_parts info_passF
  by_cases hlong : 3000 < n ∨ 3000 < n'
  · go_enter Tryz.func4, Tryz.ntmps4
    go_wp2_with fail
    refine (a2Long_yes A B n c n' c' _ hlong).mono ?_; rintro e w1 ⟨rfl, rfl⟩
    go_wp2
    go_ret
    exact ⟨rfl, b0 _⟩
  · have hn : ¬ 3000 < n := fun h => hlong (.inl h)
    have hn' : ¬ 3000 < n' := fun h => hlong (.inr h)
    clear hlong
    go_enter Tryz.func4, Tryz.ntmps4
    go_wp2_with fail
    refine (a2Long_no A B n c n' c' _ hn hn').mono ?_; rintro e w1 ⟨rfl, rfl⟩
    go_wp2_with fail
    refine (A2Deck_any A n c bs0 _ ha (by omega)).mono ?_
    rintro e w1 ⟨D, cd, gs, wd, rfl, hg8, hw1, hw3, hgd, hod, hb1⟩
    have HGD := Lib.hid hgd
    have hrb := hb.up hb1
    have hcL : (cards gs).length ≤ 40 := by rw [cards_length]; omega
    have HOK := Lib.hid (good_deck hgd hw1 (by omega) hcL).1
    have HTOT := Lib.hid (good_tot hgd (by omega) (by omega))
    have HWA := Lib.hid (good_w hgd hw1 (by omega) hcL)
    go_wp2_with fail
    refine (a2Field_any D cd gs wd B n' c' cs0 _ hod.rd hgd hw1 (by omega) (by omega) hrb (by omega)).mono ?_
    rintro e w2 ⟨i, j, hij, hjw0, rfl, hb2⟩
    have hjw : j ≤ wd := by have := HWA.out; omega
    have HC0 := Lib.hid (good_codeK hgd hw1 (by omega) hcL hij hjw0)
    have TB := ba (b0 w2) (.cells #[.int .i64 (i : Int), .int .i64 (j : Int)] 31)
    have HT2 := Lib.hid (bs (bs hb1 hb2) TB)
    have HOD2 := Lib.hid ((hod.bs hb2).bs TB)
    have hrb2 := (hrb.up hb2).a1 (.cells #[.int .i64 (i : Int), .int .i64 (j : Int)] 31)
    have kf0 := (show (w2.alloc (.cells #[.int .i64 (i : Int), .int .i64 (j : Int)] 31)).cell? ⟨w2.heap.size, 0, none⟩ = some (.int .i64 (i : Int)) from cell_new rfl rfl)
    have kf1 := (show (w2.alloc (.cells #[.int .i64 (i : Int), .int .i64 (j : Int)] 31)).cell? ⟨w2.heap.size, 1, none⟩ = some (.int .i64 (j : Int)) from cell_new rfl rfl)
    clear hgd hb1 hb2 TB hrb hod
    have h4 : ¬ (4 : Int) < (j : Int) - (i : Int) := by omega
    have HC4 := Lib.hid (fewC_0 HC0.out h4).1
    have HFS := Lib.hid (few_short HC0.out hij h4)
    have HFO := Lib.hid (few_ok HC0.out hij h4)
    have HFM := Lib.hid (fun q (hq : q ∈ fewR (cards gs) (i : Int) (j : Int)) => few_mem HC0.out hij h4 hq)
    have HFL := Lib.hid (fun k (hk : k < (fewR (cards gs) (i : Int) (j : Int)).length) => few_less HC0.out hij h4 hk)
    have HFB := Lib.hid (fun k (hk : k < (fewR (cards gs) (i : Int) (j : Int)).length) => few_busy HC0.out hij h4 hk)
    have HF40 := Lib.hid (fewR_length (cards gs) (i : Int) (j : Int))
    obtain ⟨fw, hfw⟩ : ∃ fw, fw = fewR (cards gs) (i : Int) (j : Int) := ⟨_, rfl⟩
    rw [← hfw] at HFS HFO HFM HFL HFB HF40
    have HPL := Lib.hid (fun q hq => plan_ok (W := deckW (cards gs)) hij (show j ≤ deckW (cards gs) by have := HWA.out; omega) q (HFM.out q hq))
    have HP20 := Lib.hid (fun q hq => plan_ok (W := 20) hij (by omega) q (HFM.out q hq))
    have HPO := Lib.hid (passes_mk HPL.out HF40.out)
    have HIP := Lib.hid (show ipC (cards gs) fw (i : Int) (j : Int) = 0 by rw [ipC_k HOK.out HPO.out]; exact HC0.out)
    have HIR := Lib.hid (show ipR (cards gs) fw (i : Int) (j : Int) = true by rw [ipR_yes HIP.out]; exact decide_eq_true HFO.out)
    have hf40 := HF40.out
    clear h4
    go_wp2_with fail
    refine (FewestPasses_any D cd gs (cards gs) (i : Int) (j : Int) _ HOD2.out.rd rfl (by have := HTOT.out; omega) HOD2.out.cap.1).mono ?_
    rw [HC4.out, ← hfw]
    rintro e w3 ⟨FA, cf, rfl, hof, hb3⟩
    have HOF3 := Lib.hid (Ob.of hof)
    have HOD3 := Lib.hid (HOD2.out.bs hb3)
    have HT3 := Lib.hid (bs HT2.out hb3)
    replace kf0 := cell_later hb3 kf0
    replace kf1 := cell_later hb3 kf1
    have HFW := Lib.hid hfw
    clear hof hb3 hfw
    go_wp2_with fail
    refine (spShortPlan_any D cd gs (cards gs) (i : Int) (j : Int) _ HOD3.out.rd rfl (by have := HTOT.out; omega) HOD3.out.cap.1).mono ?_
    rw [HC0.out]
    obtain ⟨s, hs⟩ : ∃ s, s = (shortRes (cards gs) (i : Int) (j : Int)).length := ⟨_, rfl⟩
    rw [← hs] at HFS ⊢
    rintro e w4 ⟨SA, cs, rfl, _, hb4⟩
    have HOF4 := Lib.hid (HOF3.out.bs hb4)
    have HOD4 := Lib.hid (HOD3.out.bs hb4)
    have HT4 := Lib.hid (bs HT3.out hb4)
    replace kf0 := cell_later hb4 kf0
    replace kf1 := cell_later hb4 kf1
    have e1 : decide (s < fw.length) = false := decide_eq_false (by have := HFS.out; omega)
    have hcf := (own_cap HOF4.out.1).1
    clear hb4 hs
    go_wp2_with fail
    refine (spIsPlanFor_any D cd gs (cards gs) (i : Int) (j : Int) FA cf fw _ HOD4.out.rd rfl (by have := HTOT.out; omega) HOD4.out.cap.1 HOF4.out.rd (by omega)).mono ?_
    rw [HIP.out, HIR.out]
    rintro e w5 ⟨rfl, hb5⟩
    have HOF := Lib.hid (HOF4.out.bs hb5)
    have HOD := Lib.hid (HOD4.out.bs hb5)
    have HT5 := Lib.hid (bs HT4.out hb5)
    have HKF0 := Lib.hid (cell_later hb5 kf0)
    have HKF1 := Lib.hid (cell_later hb5 kf1)
    clear hb5 kf0 kf1
    go_wp2
    go_loopw [13] (fun q wr => ∃ k : Nat, k ≤ fw.length ∧ q = .int .i64 k ∧ Below w5.heap.size w5 wr) (fun q _ => fw.length - (intOf q).toNat)
    case atStart => exact ⟨0, Nat.zero_le _, rfl, b0 _⟩
    case round =>
      obtain ⟨wo, rfl⟩ : ∃ wo : World, wo = wr := ⟨_, rfl⟩
      obtain ⟨k, hk, rfl, hbw⟩ := hrel
      by_cases hlt : k < fw.length
      · have i1 : (k : Int) < (fw.length : Int) := by omega
        have hro := HOF.out.rd.up hbw
        have kf0 := cell_later hbw HKF0.out
        have kf1 := cell_later hbw HKF1.out
        obtain ⟨b1, o1, hFA, _, _⟩ := hro.at_ hlt
        subst hFA
        have HR1 := Lib.hid (hro.pre (show k ≤ fw.length by omega))
        have HR2 := Lib.hid (hro.post (show k + 1 ≤ fw.length by omega))
        rw [prs_take] at HR1
        rw [prs_drop] at HR2
        obtain ⟨lss, hlss⟩ : ∃ lss, lss = fw.take k ++ fw.drop (k + 1) := ⟨_, rfl⟩
        have HLS := Lib.hid (show lss.length = k + (fw.length - (k + 1)) by rw [hlss, List.length_append, List.length_take, List.length_drop]; omega)
        have HLE := Lib.hid hlss
        have HLP := Lib.hid (show passesOk (deckW (cards gs) : Int) lss = true from passes_mk (fun q hq => HPL.out q (by
          rw [hlss] at hq
          rcases List.mem_append.1 hq with hq | hq
          · exact List.mem_of_mem_take hq
          · exact List.mem_of_mem_drop hq)) (by rw [HLS.out]; omega))
        have HIP2 := Lib.hid (show ipC (cards gs) lss (i : Int) (j : Int) = 0 by rw [ipC_k HOK.out HLP.out]; exact HC0.out)
        have HIR2 := Lib.hid (show ipR (cards gs) lss (i : Int) (j : Int) = false by rw [ipR_yes HIP2.out, hlss]; exact decide_eq_false (HFL.out k hlt))
        have HC7 := Lib.hid (show code7 (cards gs) fw[k].1 fw[k].2 = 0 by unfold code7; rw [if_pos HOK.out, if_pos (HPL.out _ (List.getElem_mem hlt))])
        have HID := Lib.hid (show idleRes (cards gs) fw[k].1 fw[k].2 = false by unfold idleRes; rw [if_pos HC7.out]; exact HFB.out k hlt)
        have hcf0 : fw.length ≤ cf := hcf
        clear hlss
        by_cases j1 : cf = k + 1
        · replace j1 := j1.symm
          have j5 : (k : Int) ≤ (k : Int) + 1 := by omega
          have HR2 := Lib.hid (show Rd wo wo.heap.size 2 (some ⟨b1, o1, none⟩) (fw.length - (k + 1)) (prs (fw.drop (k + 1))) from Rd.zero HR2.out (by omega))
          have j2 : k ≤ cf := by omega
          have j3 : (k : Int) + 1 ≤ (fw.length : Int) := by omega
          have j4 : 0 ≤ (k : Int) + 1 := by omega
          have z1 : ((k : Int) + 1).toNat = k + 1 := by omega
          have z0 : IntKind.i64.wrap ((k : Int) + 1) = (k : Int) + 1 := by rw [IntKind.wrap_i64]; omega
          go_wp2_with fail
          go_region_law (first
            | (refine step_apc rfl (.tmp 73) (.tmp 76) 26 rfl wo.heap.size 46 i0 _ 2 16 Tryz.underlying26 hi hi0 hi1 hi2 rfl (by omega) (some ⟨wo.heap.size, 0, none⟩) 0 0 [] _ (by simp [Act.eval, Act.put]) (by first | exact own_lit wo #[] 0 rfl (Nat.le_refl _) (by omega) rfl | exact own_lit wo.drew #[] 0 rfl (Nat.le_refl _) (by omega) rfl) wo.heap.size (some ⟨b1, o1, none⟩) k cf (prs (fw.take k)) (by simp [Act.eval, Act.put]) (HR1.out.alloc (Nat.le_refl _) _) (prs_one _) (by omega) (by omega) (by simp) k (by omega) (prs (fw.take k)) rfl ?_; intro G1 c1 w6 hown6 hb6; have B6 : Below wo.heap.size wo w6 := ⟨hb6.os, hb6.tape, hb6.output, Nat.le_trans (by simp) hb6.size, fun q hq => (hb6.block q hq).trans ((ba (b0 wo) (.cells #[] 46)).block q hq)⟩)
            | (refine step_apc rfl (.tmp 77) (.tmp 81) 26 rfl wo.heap.size 46 i0 _ 2 16 Tryz.underlying26 hi hi0 hi1 hi2 rfl (by omega) G1 k c1 (prs (fw.take k)) _ (by simp [Act.eval, Act.put]) hown6 wo.heap.size (some ⟨b1, o1, none⟩) (fw.length - (k + 1)) (cf - (k + 1)) (prs (fw.drop (k + 1))) (by simp [Act.eval, Act.put, *]) (HR2.out.below B6) (prs_one _) (by omega) (by omega) B6.size lss.length (by rw [HLS.out]) (prs lss) (by rw [HLE.out, prs_append]) ?_; intro G2 c2 w7 hown7 hb7; have B7 : Below wo.heap.size wo w7 := B6.trans ⟨hb7.os, hb7.tape, hb7.output, hb7.size, hb7.block⟩))
          all_goals
            have HOW := Lib.hid (Rd.own hown7)
            have HB7 := Lib.hid (show Below w5.heap.size w5 w7 from bs hbw B7)
            have hro7 := hro.up B7
            obtain ⟨b3, o3, hF3, _, hcF⟩ := hro7.at_ hlt
            have d1 := hcF _ _ (prs_fst fw k hlt)
            have d2 := hcF _ _ (prs_snd fw k hlt)
            rw [← Nat.add_assoc] at d2
            injection hF3 with f1
            injection f1 with f1 f2
            subst f1
            subst f2
            replace kf0 := cell_later B7 kf0
            replace kf1 := cell_later B7 kf1
            have HD := Lib.hid (HOD.out.bs HB7.out)
            clear hown6 hb6 B6 hown7 hb7 z0 z1 j1 j2 j3 j4 hcF hro7
            go_wp2_with fail
            refine (spIsPlanFor_any D cd gs (cards gs) (i : Int) (j : Int) G2 c2 lss _ HD.out.rd rfl (by have := HTOT.out; omega) HD.out.cap.1 HOW.out (by rw [HLS.out]; omega)).mono ?_
            rw [HIP2.out, HIR2.out]
            rintro e w8 ⟨rfl, hb8⟩
            replace d1 := cell_later hb8 d1
            replace d2 := cell_later hb8 d2
            have HD8 := Lib.hid (HD.out.bs hb8)
            have HB8 := Lib.hid (bs HB7.out hb8)
            clear hb8 B7 kf0 kf1
            go_wp2_with fail
            refine (IsIdlePass_any D cd gs (cards gs) fw[k].1 fw[k].2 _ HD8.out.rd rfl (by have := HTOT.out; omega) HD8.out.cap.1).mono ?_
            rw [HID.out, HC7.out]
            rintro e w9 ⟨rfl, hb9⟩
            have HB9 := Lib.hid (bs HB8.out hb9)
            clear hb9 d1 d2 hbw hro
            go_wp2
            go_roundw
            case rel =>
              have P : ∃ q : Nat, q ≤ fw.length ∧ (Value.int .i64 ((k : Int) + 1)) = .int .i64 q ∧ Below w5.heap.size w5 w9 := ⟨k + 1, by omega, by go_num, HB9.out⟩
              first | exact P | exact ⟨_, P, rfl⟩ | exact ⟨_, _, P, rfl, rfl⟩ | exact ⟨_, _, _, P, rfl, rfl, rfl⟩ | exact ⟨_, _, _, _, P, rfl, rfl, rfl, rfl⟩ | exact ⟨_, _, _, _, _, P, rfl, rfl, rfl, rfl, rfl⟩ | exact ⟨_, _, _, _, _, _, P, rfl, rfl, rfl, rfl, rfl, rfl⟩ | exact ⟨_, _, _, _, _, _, _, P, rfl, rfl, rfl, rfl, rfl, rfl, rfl⟩ | exact ⟨_, _, _, _, _, _, _, _, P, rfl, rfl, rfl, rfl, rfl, rfl, rfl, rfl⟩
            case measure => (simp [intOf]; try omega)
        · have j2 : k ≤ cf := by omega
          have j3 : (k : Int) + 1 ≤ (fw.length : Int) := by omega
          have j4 : 0 ≤ (k : Int) + 1 := by omega
          have z1 : ((k : Int) + 1).toNat = k + 1 := by omega
          have z0 : IntKind.i64.wrap ((k : Int) + 1) = (k : Int) + 1 := by rw [IntKind.wrap_i64]; omega
          go_wp2_with fail
          go_region_law (first
            | (refine step_apc rfl (.tmp 73) (.tmp 76) 26 rfl wo.heap.size 46 i0 _ 2 16 Tryz.underlying26 hi hi0 hi1 hi2 rfl (by omega) (some ⟨wo.heap.size, 0, none⟩) 0 0 [] _ (by simp [Act.eval, Act.put]) (by first | exact own_lit wo #[] 0 rfl (Nat.le_refl _) (by omega) rfl | exact own_lit wo.drew #[] 0 rfl (Nat.le_refl _) (by omega) rfl) wo.heap.size (some ⟨b1, o1, none⟩) k cf (prs (fw.take k)) (by simp [Act.eval, Act.put]) (HR1.out.alloc (Nat.le_refl _) _) (prs_one _) (by omega) (by omega) (by simp) k (by omega) (prs (fw.take k)) rfl ?_; intro G1 c1 w6 hown6 hb6; have B6 : Below wo.heap.size wo w6 := ⟨hb6.os, hb6.tape, hb6.output, Nat.le_trans (by simp) hb6.size, fun q hq => (hb6.block q hq).trans ((ba (b0 wo) (.cells #[] 46)).block q hq)⟩)
            | (refine step_apc rfl (.tmp 77) (.tmp 81) 26 rfl wo.heap.size 46 i0 _ 2 16 Tryz.underlying26 hi hi0 hi1 hi2 rfl (by omega) G1 k c1 (prs (fw.take k)) _ (by simp [Act.eval, Act.put]) hown6 wo.heap.size (some ⟨b1, o1 + (k + 1) * 2, none⟩) (fw.length - (k + 1)) (cf - (k + 1)) (prs (fw.drop (k + 1))) (by simp [Act.eval, Act.put, *]) (HR2.out.below B6) (prs_one _) (by omega) (by omega) B6.size lss.length (by rw [HLS.out]) (prs lss) (by rw [HLE.out, prs_append]) ?_; intro G2 c2 w7 hown7 hb7; have B7 : Below wo.heap.size wo w7 := B6.trans ⟨hb7.os, hb7.tape, hb7.output, hb7.size, hb7.block⟩))
          all_goals
            have HOW := Lib.hid (Rd.own hown7)
            have HB7 := Lib.hid (show Below w5.heap.size w5 w7 from bs hbw B7)
            have hro7 := hro.up B7
            obtain ⟨b3, o3, hF3, _, hcF⟩ := hro7.at_ hlt
            have d1 := hcF _ _ (prs_fst fw k hlt)
            have d2 := hcF _ _ (prs_snd fw k hlt)
            rw [← Nat.add_assoc] at d2
            injection hF3 with f1
            injection f1 with f1 f2
            subst f1
            subst f2
            replace kf0 := cell_later B7 kf0
            replace kf1 := cell_later B7 kf1
            have HD := Lib.hid (HOD.out.bs HB7.out)
            clear hown6 hb6 B6 hown7 hb7 z0 z1 j1 j2 j3 j4 hcF hro7
            go_wp2_with fail
            refine (spIsPlanFor_any D cd gs (cards gs) (i : Int) (j : Int) G2 c2 lss _ HD.out.rd rfl (by have := HTOT.out; omega) HD.out.cap.1 HOW.out (by rw [HLS.out]; omega)).mono ?_
            rw [HIP2.out, HIR2.out]
            rintro e w8 ⟨rfl, hb8⟩
            replace d1 := cell_later hb8 d1
            replace d2 := cell_later hb8 d2
            have HD8 := Lib.hid (HD.out.bs hb8)
            have HB8 := Lib.hid (bs HB7.out hb8)
            clear hb8 B7 kf0 kf1
            go_wp2_with fail
            refine (IsIdlePass_any D cd gs (cards gs) fw[k].1 fw[k].2 _ HD8.out.rd rfl (by have := HTOT.out; omega) HD8.out.cap.1).mono ?_
            rw [HID.out, HC7.out]
            rintro e w9 ⟨rfl, hb9⟩
            have HB9 := Lib.hid (bs HB8.out hb9)
            clear hb9 d1 d2 hbw hro
            go_wp2
            go_roundw
            case rel =>
              have P : ∃ q : Nat, q ≤ fw.length ∧ (Value.int .i64 ((k : Int) + 1)) = .int .i64 q ∧ Below w5.heap.size w5 w9 := ⟨k + 1, by omega, by go_num, HB9.out⟩
              first | exact P | exact ⟨_, P, rfl⟩ | exact ⟨_, _, P, rfl, rfl⟩ | exact ⟨_, _, _, P, rfl, rfl, rfl⟩ | exact ⟨_, _, _, _, P, rfl, rfl, rfl, rfl⟩ | exact ⟨_, _, _, _, _, P, rfl, rfl, rfl, rfl, rfl⟩ | exact ⟨_, _, _, _, _, _, P, rfl, rfl, rfl, rfl, rfl, rfl⟩ | exact ⟨_, _, _, _, _, _, _, P, rfl, rfl, rfl, rfl, rfl, rfl, rfl⟩ | exact ⟨_, _, _, _, _, _, _, _, P, rfl, rfl, rfl, rfl, rfl, rfl, rfl, rfl⟩
            case measure => (simp [intOf]; try omega)
      · obtain rfl : k = fw.length := by omega
        have HD := Lib.hid (HOD.out.bs hbw)
        have hro := HOF.out.rd.up hbw
        have HHO := Lib.hid (show handledOk (gs.length : Int) fw = true by unfold handledOk; rw [show passesOk 20 fw = true from passes_mk (W := ((20 : Nat) : Int)) HP20.out HF40.out, insideB_mk (by omega) (by omega)]; rfl)
        have HH1 := Lib.hid (show handledRes (gs.length : Int) fw = ((gs.length * fw.length : Nat) : Int) by unfold handledRes; rw [if_pos HHO.out]; simp)
        have HH2 := Lib.hid (show handledCode (gs.length : Int) fw = 0 by unfold handledCode; rw [if_pos HHO.out])
        have hmul : gs.length * fw.length ≤ 8 * 40 := Nat.mul_le_mul hg8 hf40
        have HX := Lib.hid (show ((gs.length : Int) * (fw.length : Int)) = ((gs.length * fw.length : Nat) : Int) by simp)
        obtain ⟨M, hM⟩ : ∃ M, M = gs.length * fw.length := ⟨_, rfl⟩
        rw [← hM] at HH1 HX hmul
        clear hM
        go_wp2_with fail
        refine (HandledCards_any (gs.length : Int) FA cf fw _ hro (by omega)).mono ?_
        rw [HH1.out, HH2.out]
        rintro e w6 ⟨rfl, hb6⟩
        have HB6 := Lib.hid (bs (bs HT5.out hbw) hb6)
        have zz : wrap64 ((gs.length : Int) * (fw.length : Int)) = (M : Int) := by rw [HX.out]; unfold wrap64; omega
        clear hb6 hbw hro
        go_wp2
        go_ret
        exact ⟨ret_bool (by simp), HB6.out⟩

set_option maxRecDepth 100000 in
theorem lawFewest_lifted (os : Os) (started : os.Started) (H : Type) (enc : TypeId × Value → H) :
    ReturnsInHanded {} Tryz.checked os 4 .any (Rows.fnFewestSpec.pre6 enc Tryz.prog Tryz.f4 Rows.fnFewestRow.domain false) (Rows.fnFewestSpec.post enc Tryz.prog Tryz.f4 false true false false) := by
  refine returnsInHanded_of_change (C := Tryz.checked) lawOwn started (by kernel_rfl) Tryz.func4
    (ChangeSpec.witness6 (enc := enc) (C := Tryz.checked) false ⟨#[], #[.slice none 0 0, .slice none 0 0], []⟩ 8 (by kernel_rfl) (by kernel_rfl) (by kernel_rfl) (by kernel_rfl)) ?_
  intro W base args ds gs before hval0 hW _ _
  have hval : ∀ (j : Nat) t v, Tryz.f4.params[j]? = some t → args[j]? = some v → Value.okWide Tryz.prog W .any base t v := hval0
  clear hval0
  have hW0 : DataW.Whole enc Tryz.prog Tryz.f4.params.toList Rows.fnFewestSpec.vars false W args.toList ds gs before := hW
  clear hW
  have hW := hW0
  obtain ⟨p, q, hA, hV, _, _, _⟩ := hW
  rw [Tryz.params4] at hA hval
  obtain ⟨v0, vs0, d0, ds0, p0, q0, hargs, rfl, rfl, h0, hA0⟩ := trodAll_cons hA
  obtain ⟨v1, vs1, d1, ds1, p1, q1, rfl, rfl, rfl, h1, hA1⟩ := trodAll_cons hA0
  obtain ⟨rfl, rfl, rfl⟩ := trodAll_nil hA1
  have hargs2 : args = #[v0, v1] := by cases args; simp_all
  clear hargs
  subst hargs2
  obtain ⟨A0, c0, bs0, rfl, hc0, hm0, r0⟩ := in_bytes Tryz.underlying38 Tryz.underlying5 (by kernel_rfl) (hval 0 38 v0 rfl rfl) h0
  obtain ⟨A1, c1, bs1, rfl, hc1, hm1, r1⟩ := in_bytes Tryz.underlying38 Tryz.underlying5 (by kernel_rfl) (hval 1 38 v1 rfl rfl) h1
  have hcall := lawFewest_any A0 _ c0 bs0 A1 _ c1 bs1 W r0 r1
  refine hcall.mono fun e W' ⟨he, hb⟩ => ⟨_, he, ?_⟩
  exact post_law (f := Tryz.f4) (s := Rows.fnFewestSpec) hW0 rfl (tb := 4) rfl Tryz.underlying4 rfl lawLaid (by kernel_rfl) hb

theorem fnFewest_holds : Rows.FnFewestSaid :=
  OpenClaim.holds_of_wide 4 Tryz.f4 rfl rfl rfl rfl rfl rfl rfl ⟨rfl, rfl, rfl, rfl, rfl⟩ rfl rfl rfl rfl rfl (by kernel_rfl) Tryz.func4 (by kernel_rfl)
    (of_decide_eq_true (by kernel_rfl)) (by unfold Func.isWrapper; first | (rw [if_pos (by decide +kernel)]; kernel_rfl) | (rw [if_neg (by decide +kernel)]; exact ⟨rfl, rfl⟩))
    (fun os started H enc _ => lawFewest_lifted os started H enc)
#print axioms fnFewest_holds
end Go.Proofs.YtkcnahjgkhgebaaGreat
