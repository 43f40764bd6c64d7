/- The law FnPlans answers true at every input, and its arguments stay as they were; condition: the listed tables of the library. The card of it. -/
import Derived.Test.YtmfoaggohlfflaaGreatDoorCards
import Derived.Test.YtmfoaggohlfflaaGreatDoorTie
import Derived.Test.YtmfoaggohlfflaaGreatDoorLawBase
import Derived.Test.YtmfoaggohlfflaaGreatDoorOpenBytes
import Derived.Test.YtmfoaggohlfflaaGreatDoorA2
import Derived.Test.YtmfoaggohlfflaaGreatDoorPlansLaw
import Derived.Test.YtmfoaggohlfflaaGreatDoorAlwaysAll
import Derived.Test.YtmfoaggohlfflaaGreatDoorPlanForAll
import Derived.Test.YtmfoaggohlfflaaGreatDoorCuts
import Derived.LaidMore
import Derived.SevenTiedAt
import Derived.OpenShut
import Derived.Stop.Joined
namespace Go.Proofs.YtmfoaggohlfflaaGreatDoor
open Go.RowKit Go.ChangeShapes Go.WideShapes Go.ChangeAt

set_option maxRecDepth 100000 in
set_option maxHeartbeats 16000000 in
theorem lawPlans_any (A : Option Addr) (n c : Nat) (bs0 : List UInt8) (B : Option Addr) (n' c' : Nat) (cs0 : List UInt8) (w : World) (ha : Rd w w.heap.size 1 A n (byts bs0)) (hb : Rd w w.heap.size 1 B n' (byts cs0))
    (htab : Lib.TabIs Tryz.prog w "internal/strconv.uint64pow10" .u64 Lib.pow10Tab) :
    Calls Tryz.prog 3 #[.slice A n c, .slice B n' c'] w fun e w' => e = .returned (.bool true) ∧ Below w.heap.size w w' := by
  obtain ⟨i0, hi, hi0, hi1, hi2⟩ := info_parts info_passS
  by_cases hlong : 3000 < n ∨ 3000 < n'
  · go_enter Tryz.func3, Tryz.ntmps3
    go_wp2_with fail
    refine (a2Long_yes A B n c n' c' _ hlong).mono ?_; rintro e w1 ⟨rfl, rfl⟩
    go_wp2
    go_ret
    exact ⟨rfl, b0 _⟩
  · have hn : ¬ 3000 < n := fun h => hlong (.inl h)
    have hn' : ¬ 3000 < n' := fun h => hlong (.inr h)
    clear hlong
    go_enter Tryz.func3, Tryz.ntmps3
    go_wp2_with fail
    refine (a2Long_no A B n c n' c' _ hn hn').mono ?_; rintro e w1 ⟨rfl, rfl⟩
    go_wp2_with fail
    refine (A2Deck_any A n c bs0 _ ha (by omega)).mono ?_
    rintro e w1 ⟨D, cd, gs, wd, rfl, hg8, hw1, hw3, hgd, hod, hb1⟩
    have HGD := Lib.hid hgd
    have hrb := hb.up hb1
    have hcL : (cards gs).length ≤ 40 := by rw [cards_length]; omega
    have HOK := Lib.hid (good_deck hgd hw1 (by omega) hcL).1
    have HTOT := Lib.hid (good_tot hgd (by omega) (by omega))
    have HWA := Lib.hid (good_w hgd hw1 (by omega) hcL)
    go_wp2_with fail
    refine (a2Field_any D cd gs wd B n' c' cs0 _ hod.rd hgd hw1 (by omega) (by omega) hrb (by omega)).mono ?_
    rintro e w2 ⟨i, j, hij, hjw0, rfl, hb2⟩
    have hjw : j ≤ wd := by have := HWA.out; omega
    have HC0 := Lib.hid (good_codeK hgd hw1 (by omega) hcL hij hjw0)
    have TB := ba (b0 w2) (.cells #[.int .i64 (i : Int), .int .i64 (j : Int)] 27)
    have HT2 := Lib.hid (bs (bs hb1 hb2) TB)
    have HOD2 := Lib.hid ((hod.bs hb2).bs TB)
    have hrb2 := (hrb.up hb2).a1 (.cells #[.int .i64 (i : Int), .int .i64 (j : Int)] 27)
    have kf0 := (show (w2.alloc (.cells #[.int .i64 (i : Int), .int .i64 (j : Int)] 27)).cell? ⟨w2.heap.size, 0, none⟩ = some (.int .i64 (i : Int)) from cell_new rfl rfl)
    have kf1 := (show (w2.alloc (.cells #[.int .i64 (i : Int), .int .i64 (j : Int)] 27)).cell? ⟨w2.heap.size, 1, none⟩ = some (.int .i64 (j : Int)) from cell_new rfl rfl)
    have HRB2 := Lib.hid hrb2
    clear hgd hb1 hb2 TB hrb hod hrb2
    have HFO := Lib.hid (show fieldOk (i : Int) (j : Int) 20 = true by unfold fieldOk; simp only [Bool.and_eq_true, decide_eq_true_eq]; omega)
    have htn : ((j : Int) - (i : Int)).toNat = j - i := by omega
    obtain ⟨P, hP⟩ : ∃ P, P = planOf (j : Int) (j - i) := ⟨_, rfl⟩
    have HPR := Lib.hid (show P = fullRes (i : Int) (j : Int) by unfold fullRes; rw [if_pos HFO.out, htn, hP])
    have HPC := Lib.hid (show fullCode (i : Int) (j : Int) = 0 by unfold fullCode; rw [if_pos HFO.out])
    have hln : P.length = 2 * (j - i) := by rw [hP, planOf_length]
    have HPM := Lib.hid (show ∀ W : Nat, j ≤ W → ∀ q ∈ P, passOk (W : Int) q = true from fun W hW q hq => plan_ok hij hW q (by rw [← hP]; exact hq))
    have HPO := Lib.hid (show passesOk 20 P = true from passes_mk (W := ((20 : Nat) : Int)) (HPM.out 20 (by omega)) (by omega))
    have HAC := Lib.hid (show alwC P (i : Int) (j : Int) = 0 by unfold alwC; rw [if_pos HFO.out, if_pos HPO.out])
    have HAR := Lib.hid (show alwR P (i : Int) (j : Int) = true by unfold alwR; rw [if_pos HAC.out, hP]; exact full_always hij)
    obtain ⟨sh, hsh⟩ : ∃ sh, sh = shortRes (cards gs) (i : Int) (j : Int) := ⟨_, rfl⟩
    have hsk : sh = keep (idleP (cards gs)) P := by rw [hsh]; unfold shortRes; rw [if_pos HC0.out, htn, hP]
    have HSL := Lib.hid (show sh.length ≤ P.length by rw [hsk]; exact List.length_filter_le _ _)
    have HSO := Lib.hid (show passesOk (deckW (cards gs) : Int) sh = true from passes_mk (fun q hq => HPM.out (deckW (cards gs)) (by have := HWA.out; omega) q (by rw [hsk] at hq; exact (List.mem_filter.1 hq).1)) (by have := HSL.out; omega))
    have HIP := Lib.hid (show ipC (cards gs) sh (i : Int) (j : Int) = 0 by rw [ipC_k HOK.out HSO.out]; exact HC0.out)
    have HIR := Lib.hid (show ipR (cards gs) sh (i : Int) (j : Int) = true by rw [ipR_yes HIP.out, hsh]; exact decide_eq_true (short_sorts HC0.out hij))
    obtain ⟨dg, hdg⟩ : ∃ dg, dg = digRes (i : Int) (j : Int) := ⟨_, rfl⟩
    have HDL := Lib.hid (show dg.length = j - i by rw [hdg]; unfold digRes; rw [if_pos HFO.out, htn, digitsOf_length])
    have HDC := Lib.hid (show digCode (i : Int) (j : Int) = 0 by unfold digCode; rw [if_pos HFO.out])
    have HSH := Lib.hid hsh
    have HDG := Lib.hid hdg
    have hpx : P.length ≤ 1048576 := by omega
    have HPT0 := Lib.hid (fun A c W x y => PassText_any A c P W x hpx (by rw [hP]; exact planOf_bound hij (by omega)) y)
    obtain ⟨TX, hTX⟩ : ∃ TX, TX = bs_ (passT P) := ⟨_, rfl⟩
    have hne : (TX.toList != (⟨#[]⟩ : ByteArray).toList) = true := by
      have h := plan_text hij (show j ≤ 20 by omega)
      rw [← hP] at h
      simp only [bne_iff_ne, ne_eq]
      intro e
      apply h
      have e2 := congrArg List.length e
      rw [hTX] at e2
      simp [bs_, ByteArray.toList_eq] at e2
      exact e2
    have hn2 : ¬ TX.toList = [] := by simpa using hne
    have hn3 : (TX.toList == []) = false := by simpa using hn2
    have HN2 := Lib.hid hn2
    have HPT := HPT0
    rw [← hTX] at HPT
    have HLESS := Lib.hid (fun x (hx : x < P.length) => (show alwB (P.take x ++ P.drop (x + 1)) (i : Int) (j : Int) = false from by rw [hP]; exact less_not hij (by omega) (by omega)))
    have qb : ((P.length : Int) != 2 * ((j : Int) - (i : Int))) = false := by rw [hln]; simp only [bne_eq_false_iff_eq]; omega
    have q3 : wrap64 (2 * (dg.length : Int)) = (P.length : Int) := by rw [hln, HDL.out]; unfold wrap64; omega
    have q4 : (sh.length : Int) ≤ (P.length : Int) := by have := HSL.out; omega
    have HLN := Lib.hid hln
    have HPX := Lib.hid hpx
    clear hpx hTX hP hsh hdg hsk htn HPT0
    go_wp2_with fail
    refine (FullPlan_any (i : Int) (j : Int) _).mono ?_
    rw [← HPR.out, HPC.out]
    rintro e w3 ⟨FA, cf, rfl, hof, hb3⟩
    have HOF3 := Lib.hid (Ob.of hof)
    have HCF := Lib.hid (own_cap hof).1
    have HOD3 := Lib.hid (HOD2.out.bs hb3)
    have HT3 := Lib.hid (bs HT2.out hb3)
    have HRB3 := Lib.hid (HRB2.out.up hb3)
    replace kf0 := cell_later hb3 kf0
    replace kf1 := cell_later hb3 kf1
    clear hof hb3 hln
    go_wp2_with fail
    refine (AlwaysSorts_any (i : Int) (j : Int) FA cf P _ HOF3.out.rd HPX.out).mono ?_
    rw [HAR.out, HAC.out]
    rintro e w5 ⟨rfl, hb4⟩
    have HOF5 := Lib.hid (HOF3.out.bs hb4)
    have HOD5 := Lib.hid (HOD3.out.bs hb4)
    have HT5 := Lib.hid (bs HT3.out hb4)
    have HRB5 := Lib.hid (HRB3.out.up hb4)
    replace kf0 := cell_later hb4 kf0
    replace kf1 := cell_later hb4 kf1
    clear hb4
    go_upto_if 60 with fail
    go_wp2_with fail
    refine (a2At_any B n' c' cs0 2 P.length _ HRB5.out (by omega) (by have := HLN.out; omega) (by have := HPX.out; omega) (by omega)).mono ?_
    rintro e w6 ⟨x, hx, rfl, rfl⟩
    have hro := HOF5.out.rd
    have hcf := HCF.out
    have hpx := HPX.out
    obtain ⟨b1, o1, hFA, _, _⟩ := hro.at_ hx
    subst hFA
    have HR1 := Lib.hid (hro.pre (show x ≤ P.length by omega))
    have HR2 := Lib.hid (hro.post (show x + 1 ≤ P.length by omega))
    rw [prs_take] at HR1
    rw [prs_drop] at HR2
    obtain ⟨FA, hFA⟩ : ∃ FA, FA = (some ⟨b1, o1, none⟩ : Option Addr) := ⟨_, rfl⟩
    rw [← hFA] at HOF5
    obtain ⟨lss, hlss⟩ : ∃ lss, lss = P.take x ++ P.drop (x + 1) := ⟨_, rfl⟩
    have HLS := Lib.hid (show lss.length = x + (P.length - (x + 1)) by rw [hlss, List.length_append, List.length_take, List.length_drop]; omega)
    have HLE := Lib.hid hlss
    have HLC := Lib.hid (show alwC lss (i : Int) (j : Int) = 0 by
      have hp : passesOk 20 lss = true := passes_mk (W := ((20 : Nat) : Int)) (fun q hq => HPM.out 20 (by omega) q (by
        rw [hlss] at hq
        rcases List.mem_append.1 hq with hq | hq
        · exact List.mem_of_mem_take hq
        · exact List.mem_of_mem_drop hq)) (by rw [HLS.out]; have := HLN.out; omega)
      unfold alwC; rw [if_pos HFO.out, if_pos hp])
    have HLR := Lib.hid (show alwR lss (i : Int) (j : Int) = false by unfold alwR; rw [if_pos HLC.out, hlss]; exact HLESS.out x hx)
    subst hFA
    have ipx : (x : Int) < (P.length : Int) := by omega
    clear hlss hro
    by_cases j1 : cf = x + 1
    · replace j1 := j1.symm
      have HR2 := Lib.hid (show Rd w5 w5.heap.size 2 (some ⟨b1, o1, none⟩) (P.length - (x + 1)) (prs (P.drop (x + 1))) from Rd.zero HR2.out (by omega))
      have j2 : x ≤ cf := by omega
      have j3 : (x : Int) + 1 ≤ (P.length : Int) := by omega
      have j4 : 0 ≤ (x : Int) + 1 := by omega
      have z1 : ((x : Int) + 1).toNat = x + 1 := by omega
      have z0 : IntKind.i64.wrap ((x : Int) + 1) = (x : Int) + 1 := by rw [IntKind.wrap_i64]; omega
      go_wp2_with fail
      go_region_law (first
        | (refine step_apc rfl (.tmp 65) (.tmp 68) 29 rfl w5.heap.size 76 i0 _ 2 16 Tryz.underlying29 hi hi0 hi1 hi2 rfl (by omega) (some ⟨w5.heap.size, 0, none⟩) 0 0 [] _ (by simp [Act.eval, Act.put]) (by first | exact own_lit w5 #[] 0 rfl (Nat.le_refl _) (by omega) rfl | exact own_lit w5.drew #[] 0 rfl (Nat.le_refl _) (by omega) rfl) w5.heap.size (some ⟨b1, o1, none⟩) x cf (prs (P.take x)) (by simp [Act.eval, Act.put]) (HR1.out.alloc (Nat.le_refl _) _) (prs_one _) (by omega) (by omega) (by simp) x (by omega) (prs (P.take x)) rfl ?_; intro G1 c1 w6 hown6 hb6; have B6 : Below w5.heap.size w5 w6 := ⟨hb6.os, hb6.tape, hb6.output, Nat.le_trans (by simp) hb6.size, fun q hq => (hb6.block q hq).trans ((ba (b0 w5) (.cells #[] 76)).block q hq)⟩)
        | (refine step_apc rfl (.tmp 69) (.tmp 73) 29 rfl w5.heap.size 76 i0 _ 2 16 Tryz.underlying29 hi hi0 hi1 hi2 rfl (by omega) G1 x c1 (prs (P.take x)) _ (by simp [Act.eval, Act.put]) hown6 w5.heap.size (some ⟨b1, o1, none⟩) (P.length - (x + 1)) (cf - (x + 1)) (prs (P.drop (x + 1))) (by simp [Act.eval, Act.put, *]) (HR2.out.below B6) (prs_one _) (by omega) (by omega) B6.size lss.length (by rw [HLS.out]) (prs lss) (by rw [HLE.out, prs_append]) ?_; intro G2 c2 w7 hown7 hb7; have B7 : Below w5.heap.size w5 w7 := B6.trans ⟨hb7.os, hb7.tape, hb7.output, hb7.size, hb7.block⟩))
      all_goals
        have HOW := Lib.hid (Rd.own hown7)
        have HT7 := Lib.hid (bs HT5.out B7)
        have HD7 := Lib.hid (HOD5.out.bs B7)
        have HF7 := Lib.hid (HOF5.out.bs B7)
        replace kf0 := cell_later B7 kf0
        replace kf1 := cell_later B7 kf1
        clear hown6 hb6 B6 hown7 hb7 B7 z0 z1 j1 j2 j3 j4
        go_wp2_with fail
        refine (AlwaysSorts_any (i : Int) (j : Int) G2 c2 lss _ HOW.out (by rw [HLS.out]; omega)).mono ?_
        rw [HLR.out, HLC.out]
        rintro e w8 ⟨rfl, hb8⟩
        have HD8 := Lib.hid (HD7.out.bs hb8)
        have HF8 := Lib.hid (HF7.out.bs hb8)
        have HT8 := Lib.hid (bs HT7.out hb8)
        replace kf0 := cell_later hb8 kf0
        replace kf1 := cell_later hb8 kf1
        clear hb8
        go_wp2_with fail
        refine (ShortPlan_any D cd gs (cards gs) (i : Int) (j : Int) _ HD8.out.rd rfl (by have := HTOT.out; omega) HD8.out.cap.1).mono ?_
        rw [← HSH.out, HC0.out]
        rintro e w9 ⟨SA, cs, rfl, hos, hb9⟩
        have HS9 := Lib.hid (Ob.of hos)
        have HD9 := Lib.hid (HD8.out.bs hb9)
        have HF9 := Lib.hid (HF8.out.bs hb9)
        have HT9 := Lib.hid (bs HT8.out hb9)
        replace kf0 := cell_later hb9 kf0
        replace kf1 := cell_later hb9 kf1
        clear hb9 hos
        go_wp2_with fail
        refine (IsPlanFor_any D cd gs (cards gs) (i : Int) (j : Int) SA cs sh _ HD9.out.rd rfl (by have := HTOT.out; omega) HD9.out.cap.1 HS9.out.rd (by have := HSL.out; omega)).mono ?_
        rw [HIP.out, HIR.out]
        rintro e w10 ⟨rfl, hb10⟩
        have HF10 := Lib.hid (HF9.out.bs hb10)
        have HT10 := Lib.hid (bs HT9.out hb10)
        replace kf0 := cell_later hb10 kf0
        replace kf1 := cell_later hb10 kf1
        clear hb10
        go_wp2_with fail
        refine (DigitPlan_any (i : Int) (j : Int) _).mono ?_
        rw [← HDG.out, HDC.out]
        rintro e w11 ⟨DA, cg, rfl, _, hb11⟩
        have HF11 := Lib.hid (HF10.out.bs hb11)
        have HT11 := Lib.hid (bs HT10.out hb11)
        have HTB := Lib.hid (tab_later htab HT11.out)
        clear hb11 kf0 kf1
        go_wp2_with fail
        refine (HPT.out _ cf _ HF11.out.rd HTB.out).mono ?_
        rintro e w12 ⟨rfl, hb12⟩
        have HT12 := Lib.hid (bs HT11.out hb12)
        clear hb12
        go_wp2
        go_ret
        exact ⟨ret_bool (by simp [HN2.out]), HT12.out⟩
    · have j2 : x ≤ cf := by omega
      have j3 : (x : Int) + 1 ≤ (P.length : Int) := by omega
      have j4 : 0 ≤ (x : Int) + 1 := by omega
      have z1 : ((x : Int) + 1).toNat = x + 1 := by omega
      have z0 : IntKind.i64.wrap ((x : Int) + 1) = (x : Int) + 1 := by rw [IntKind.wrap_i64]; omega
      go_wp2_with fail
      go_region_law (first
        | (refine step_apc rfl (.tmp 65) (.tmp 68) 29 rfl w5.heap.size 76 i0 _ 2 16 Tryz.underlying29 hi hi0 hi1 hi2 rfl (by omega) (some ⟨w5.heap.size, 0, none⟩) 0 0 [] _ (by simp [Act.eval, Act.put]) (by first | exact own_lit w5 #[] 0 rfl (Nat.le_refl _) (by omega) rfl | exact own_lit w5.drew #[] 0 rfl (Nat.le_refl _) (by omega) rfl) w5.heap.size (some ⟨b1, o1, none⟩) x cf (prs (P.take x)) (by simp [Act.eval, Act.put]) (HR1.out.alloc (Nat.le_refl _) _) (prs_one _) (by omega) (by omega) (by simp) x (by omega) (prs (P.take x)) rfl ?_; intro G1 c1 w6 hown6 hb6; have B6 : Below w5.heap.size w5 w6 := ⟨hb6.os, hb6.tape, hb6.output, Nat.le_trans (by simp) hb6.size, fun q hq => (hb6.block q hq).trans ((ba (b0 w5) (.cells #[] 76)).block q hq)⟩)
        | (refine step_apc rfl (.tmp 69) (.tmp 73) 29 rfl w5.heap.size 76 i0 _ 2 16 Tryz.underlying29 hi hi0 hi1 hi2 rfl (by omega) G1 x c1 (prs (P.take x)) _ (by simp [Act.eval, Act.put]) hown6 w5.heap.size (some ⟨b1, o1 + (x + 1) * 2, none⟩) (P.length - (x + 1)) (cf - (x + 1)) (prs (P.drop (x + 1))) (by simp [Act.eval, Act.put, *]) (HR2.out.below B6) (prs_one _) (by omega) (by omega) B6.size lss.length (by rw [HLS.out]) (prs lss) (by rw [HLE.out, prs_append]) ?_; intro G2 c2 w7 hown7 hb7; have B7 : Below w5.heap.size w5 w7 := B6.trans ⟨hb7.os, hb7.tape, hb7.output, hb7.size, hb7.block⟩))
      all_goals
        have HOW := Lib.hid (Rd.own hown7)
        have HT7 := Lib.hid (bs HT5.out B7)
        have HD7 := Lib.hid (HOD5.out.bs B7)
        have HF7 := Lib.hid (HOF5.out.bs B7)
        replace kf0 := cell_later B7 kf0
        replace kf1 := cell_later B7 kf1
        clear hown6 hb6 B6 hown7 hb7 B7 z0 z1 j1 j2 j3 j4
        go_wp2_with fail
        refine (AlwaysSorts_any (i : Int) (j : Int) G2 c2 lss _ HOW.out (by rw [HLS.out]; omega)).mono ?_
        rw [HLR.out, HLC.out]
        rintro e w8 ⟨rfl, hb8⟩
        have HD8 := Lib.hid (HD7.out.bs hb8)
        have HF8 := Lib.hid (HF7.out.bs hb8)
        have HT8 := Lib.hid (bs HT7.out hb8)
        replace kf0 := cell_later hb8 kf0
        replace kf1 := cell_later hb8 kf1
        clear hb8
        go_wp2_with fail
        refine (ShortPlan_any D cd gs (cards gs) (i : Int) (j : Int) _ HD8.out.rd rfl (by have := HTOT.out; omega) HD8.out.cap.1).mono ?_
        rw [← HSH.out, HC0.out]
        rintro e w9 ⟨SA, cs, rfl, hos, hb9⟩
        have HS9 := Lib.hid (Ob.of hos)
        have HD9 := Lib.hid (HD8.out.bs hb9)
        have HF9 := Lib.hid (HF8.out.bs hb9)
        have HT9 := Lib.hid (bs HT8.out hb9)
        replace kf0 := cell_later hb9 kf0
        replace kf1 := cell_later hb9 kf1
        clear hb9 hos
        go_wp2_with fail
        refine (IsPlanFor_any D cd gs (cards gs) (i : Int) (j : Int) SA cs sh _ HD9.out.rd rfl (by have := HTOT.out; omega) HD9.out.cap.1 HS9.out.rd (by have := HSL.out; omega)).mono ?_
        rw [HIP.out, HIR.out]
        rintro e w10 ⟨rfl, hb10⟩
        have HF10 := Lib.hid (HF9.out.bs hb10)
        have HT10 := Lib.hid (bs HT9.out hb10)
        replace kf0 := cell_later hb10 kf0
        replace kf1 := cell_later hb10 kf1
        clear hb10
        go_wp2_with fail
        refine (DigitPlan_any (i : Int) (j : Int) _).mono ?_
        rw [← HDG.out, HDC.out]
        rintro e w11 ⟨DA, cg, rfl, _, hb11⟩
        have HF11 := Lib.hid (HF10.out.bs hb11)
        have HT11 := Lib.hid (bs HT10.out hb11)
        have HTB := Lib.hid (tab_later htab HT11.out)
        clear hb11 kf0 kf1
        go_wp2_with fail
        refine (HPT.out _ cf _ HF11.out.rd HTB.out).mono ?_
        rintro e w12 ⟨rfl, hb12⟩
        have HT12 := Lib.hid (bs HT11.out hb12)
        clear hb12
        go_wp2
        go_ret
        exact ⟨ret_bool (by simp [HN2.out]), HT12.out⟩
/-! ### the row -/
def laidP : List (String × DataW Unit) := [("math/bits.deBruijn32tab", Rows.laid_math_bits_deBruijn32tab), ("math/bits.deBruijn64tab", Rows.laid_math_bits_deBruijn64tab), ("internal/strconv.uint64pow10", Rows.laid_internal_strconv_uint64pow10)]
theorem gPow : Tryz.prog.globalNamed "internal/strconv.uint64pow10" = some 0 := by kernel_rfl
theorem tPow : (Tryz.prog.globals[0]?).map (·.type) = some 200 := by kernel_rfl
theorem cPow : Tryz.prog.cellsOf 200 = 20 := by kernel_rfl
theorem cU64 : Tryz.prog.cellsOf 115 = 1 := by kernel_rfl
theorem datPow : (Rows.laid_internal_strconv_uint64pow10 : DataW Unit) = Lib.tabData .u64 Lib.pow10Tab := by rfl
theorem of_laidP {W : World} (h : laidMetH Tryz.prog laidP W) : Lib.TabIs Tryz.prog W "internal/strconv.uint64pow10" .u64 Lib.pow10Tab := by
  rw [MakeChecks.laidMetH_plain _ _ _ (by kernel_rfl)] at h
  obtain ⟨ps, ⟨_, _, _, _, _, _, _, _, _, _, ⟨_, _, _, _, _, _, _, _, _, _, ⟨g2, t2, cs, fuel, p, q, hg2, ht2, hv2, hd2, _, _⟩, _⟩, _⟩, _, _⟩ := h
  obtain rfl := Option.some.inj (gPow.symm.trans hg2)
  obtain rfl := Option.some.inj (tPow.symm.trans ht2)
  rw [datPow] at hd2
  unfold Lib.TabIs
  rw [hv2, ← Lib.cells_of_tab Tryz.underlying200 Tryz.underlying115 cU64 cPow hd2]
theorem door_metP (os : Os) (args : Array Value) : laidMetH Tryz.prog laidP ((World.doorLaid Tryz.prog 400 os).forCall (fun _ _ => 0) ⟨#[], args, []⟩).memory :=
  laidMetH_of_parts3 (fuel := 8) (laidMet_of_run' 8 (by kernel_rfl) (by kernel_rfl)) (by kernel_rfl) (by kernel_rfl)

set_option maxRecDepth 100000 in
theorem lawPlans_lifted (os : Os) (started : os.Started) (H : Type) (enc : TypeId × Value → H) :
    ReturnsInHanded {} Tryz.checked os 3 .any (fun w args => (Rows.fnPlansSpec.pre enc Tryz.prog Tryz.f3 [] false w args ∧ laidMetH Tryz.prog laidP w) ∧ sizedMet enc Tryz.prog Tryz.f3 (OpenSpec.ofChange Rows.fnPlansSpec) false w args)
      (Rows.fnPlansSpec.post enc Tryz.prog Tryz.f3 false true false false) := by
  refine returnsInHanded_of_change_and (C := Tryz.checked) (X := fun w _ => laidMetH Tryz.prog laidP w) (fun _ _ _ hh h => h.of_heap hh) lawOwn started (by kernel_rfl) Tryz.func3
    (ChangeSpec.witness_shaped (enc := enc) (C := Tryz.checked) (os := os) (X := fun w _ => laidMetH Tryz.prog laidP w) false (World.doorLaid Tryz.prog 400 os) #[.slice none 0 0, .slice none 0 0] 8 rfl (World.shaped_of_RefB (by kernel_rfl) (by kernel_rfl)) (by kernel_rfl) (by kernel_rfl) (by kernel_rfl) (door_metP os _)) ?_
  intro W base args ds gs before hval0 hW _ _ hL _
  have hval : ∀ (j : Nat) t v, Tryz.f3.params[j]? = some t → args[j]? = some v → Value.okWide Tryz.prog W .any base t v := hval0
  clear hval0
  have hW0 : DataW.Whole enc Tryz.prog Tryz.f3.params.toList Rows.fnPlansSpec.vars false W args.toList ds gs before := hW
  clear hW
  have hW := hW0
  obtain ⟨p, q, hA, hV, _, _, _⟩ := hW
  rw [Tryz.params3] at hA hval
  obtain ⟨v0, vs0, d0, ds0, p0, q0, hargs, rfl, rfl, h0, hA0⟩ := trodAll_cons hA
  obtain ⟨v1, vs1, d1, ds1, p1, q1, rfl, rfl, rfl, h1, hA1⟩ := trodAll_cons hA0
  obtain ⟨rfl, rfl, rfl⟩ := trodAll_nil hA1
  have hargs2 : args = #[v0, v1] := by cases args; simp_all
  clear hargs
  subst hargs2
  obtain ⟨A0, c0, bs0, rfl, hc0, hm0, r0⟩ := in_bytes Tryz.underlying22 Tryz.underlying5 (by kernel_rfl) (hval 0 22 v0 rfl rfl) h0
  obtain ⟨A1, c1, bs1, rfl, hc1, hm1, r1⟩ := in_bytes Tryz.underlying22 Tryz.underlying5 (by kernel_rfl) (hval 1 22 v1 rfl rfl) h1
  have hcall := lawPlans_any A0 _ c0 bs0 A1 _ c1 bs1 W r0 r1 (of_laidP hL)
  refine hcall.mono fun e W' ⟨he, hb⟩ => ⟨_, he, ?_⟩
  exact post_law (f := Tryz.f3) (s := Rows.fnPlansSpec) hW0 rfl (tb := 4) rfl Tryz.underlying4 rfl lawLaid (by kernel_rfl) hb

theorem lawPlans_holds : Rows.FnPlansSaid :=
  OpenClaim.holds_of_wide 3 Tryz.f3 rfl rfl rfl rfl rfl rfl rfl ⟨rfl, rfl, rfl, rfl, rfl⟩ rfl rfl rfl rfl rfl (by kernel_rfl) Tryz.func3 (by kernel_rfl)
    (of_decide_eq_true (by kernel_rfl)) (by unfold Func.isWrapper; first | (rw [if_pos (by decide +kernel)]; kernel_rfl) | (rw [if_neg (by decide +kernel)]; exact ⟨rfl, rfl⟩))
    (fun os started H enc _ => lawPlans_lifted os started H enc)

theorem fnPlans_holds : Rows.FnPlansCardSaid :=
  Claim7.holds_tied_plain_at .later [] [.data, .data, .data] true (true, "dc52e782ee1b770f07fc002ce4f52a1b1b112da1bfecf873a68baa8807722078") true
    lawPlans_holds (fun _ h => by cases h) (by kernel_rfl) (fun _ h => by cases h) fnPlans_row_tie rfl ⟨rfl, rfl⟩ (by kernel_rfl) rfl
    (fun f fn hf hfn => by
      obtain rfl : f = 3 := Option.some.inj ((show Tryz.prog.funcNamed "loop.example/g01012/laws.FnPlans" = some 3 by kernel_rfl).symm.trans hf) |>.symm
      obtain rfl : fn = Tryz.f3 := (Option.some.inj (Tryz.func3.symm.trans hfn)).symm
      exact ⟨by kernel_rfl, fun j t ht => by
        rw [Tryz.params3] at ht
        have hm : t ∈ [22] := by simpa using Array.mem_of_getElem? ht
        have hall : ([22].all fun u => !Tryz.prog.wantsStandIn u) = true := by kernel_rfl
        exact (show Tryz.prog.wantsStandIn t = false by simpa using List.all_eq_true.1 hall t hm)⟩)
    (by kernel_rfl)
#print axioms fnPlans_holds
end Go.Proofs.YtmfoaggohlfflaaGreatDoor
