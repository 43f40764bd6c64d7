/- The law FnGroups answers true at every input, and its arguments stay as they were; conditions: none. -/
import Derived.Test.YtdppmlchabogaaaRows
import Derived.Test.YtdppmlchabogaaaLawBase
import Derived.Test.YtdppmlchabogaaaOpenBytes
import Derived.Test.YtdppmlchabogaaaA2
import Derived.Test.YtdppmlchabogaaaGroups
import Derived.Test.YtdppmlchabogaaaFirst
namespace Go.Proofs.Ytdppmlchabogaaa
open Go.RowKit Go.ChangeShapes Go.WideShapes Go.ChangeAt

/-! ### the plain law -/
theorem filt_at (p : Nat → Bool) : ∀ {n i : Nat}, i < n → p i = true → ((List.range n).filter p)[((List.range i).filter p).length]? = some i
  | 0, i, h, _ => by omega
  | n + 1, i, h, hp => by
    rw [List.range_succ, List.filter_append]
    by_cases e : i = n
    · subst e
      rw [List.getElem?_append_right (Nat.le_refl _), Nat.sub_self]
      simp [hp]
    · have ih := filt_at p (show i < n by omega) hp
      rw [List.getElem?_append_left (List.getElem?_eq_some_iff.1 ih).1]
      exact ih
theorem grp_at {L : List (List Int)} {a b : Int} {i n : Nat} (h : i < n) (hb : i = 0 ∨ cmpC L a b (i - 1) i ≠ 0) : (grpL L a b n)[(grpL L a b i).length]? = some (i : Int) := by
  unfold grpL
  rw [List.length_map, List.getElem?_map, filt_at _ h (by rcases hb with hb | hb <;> simp [hb])]
  rfl
theorem cmpR_zero {x y : List Int} (h : x.length = y.length) : cmpR x y = 0 ↔ x.map rankM = y.map rankM := cmpN_zero (by simp [h])
theorem steps_le {L : List (List Int)} {a b : Int} {n : Nat} (h : ∀ i, 1 ≤ i → i < n → (part (L.getD (i - 1) []) a b).length = (part (L.getD i []) a b).length) : (stepsL L a b n).length ≤ (grpL L a b n).length := by
  unfold stepsL grpL
  rw [List.length_map, List.length_map]
  have key : ∀ l : List Nat, (∀ i ∈ l, i < n) → (l.filter fun i => decide (1 ≤ i) && decide (cmpC L a b i (i - 1) < 0)).length ≤ (l.filter fun i => i == 0 || decide (cmpC L a b (i - 1) i ≠ 0)).length := by
    intro l
    induction l with
    | nil => intro _; exact Nat.le_refl _
    | cons i l ih =>
      intro hl
      have ih := ih fun x hx => hl x (List.mem_cons_of_mem _ hx)
      have hi := hl i (List.mem_cons_self ..)
      by_cases hs : (decide (1 ≤ i) && decide (cmpC L a b i (i - 1) < 0)) = true
      · have hg : (i == 0 || decide (cmpC L a b (i - 1) i ≠ 0)) = true := by
          simp only [Bool.and_eq_true, decide_eq_true_eq] at hs
          have hl2 := h i hs.1 hi
          have : cmpC L a b (i - 1) i ≠ 0 := by
            intro e
            unfold cmpC at e hs
            have e1 := (cmpR_zero hl2).1 e
            have e2 := (cmpR_zero hl2.symm).2 e1.symm
            omega
          simp [this]
        rw [List.filter_cons, if_pos hs, List.filter_cons, if_pos hg]
        simp only [List.length_cons]
        omega
      · rw [List.filter_cons, if_neg hs, List.filter_cons]
        split
        · simp only [List.length_cons]; omega
        · exact ih
  exact key _ fun i hi => List.mem_range.1 hi

/-! ### the walk -/
/-- Behind i cards. -/
def FgrR (L : List (List Int)) (a b : Int) (w5 : World) (wr : World) (x q : Value) : Prop := ∃ k : Nat, k ≤ L.length ∧ q = .int .i64 k ∧ x = .int .i64 ((grpL L a b k).length : Nat) ∧ Below w5.heap.size w5 wr

set_option maxRecDepth 100000 in
set_option maxHeartbeats 16000000 in
theorem lawGroups_any (A : Option Addr) (n c : Nat) (bs0 : List UInt8) (B : Option Addr) (n' c' : Nat) (cs0 : List UInt8) (w : World) (ha : Rd w w.heap.size 1 A n (byts bs0)) (hb : Rd w w.heap.size 1 B n' (byts cs0)) :
    Calls Try.prog 6 #[.slice A n c, .slice B n' c'] w fun e w' => e = .returned (.bool true) ∧ Below w.heap.size w w' := by
  by_cases hlong : 3000 < n ∨ 3000 < n'
  · go_enter Try.func6, Try.ntmps6
    go_wp2_with fail
    refine (a2Long_yes A B n c n' c' _ hlong).mono ?_; rintro e w1 ⟨rfl, rfl⟩
    go_wp2
    go_ret
    exact ⟨rfl, b0 _⟩
  · have hn : ¬ 3000 < n := fun h => hlong (.inl h)
    have hn' : ¬ 3000 < n' := fun h => hlong (.inr h)
    clear hlong
    go_enter Try.func6, Try.ntmps6
    go_wp2_with fail
    refine (a2Long_no A B n c n' c' _ hn hn').mono ?_; rintro e w1 ⟨rfl, rfl⟩
    go_wp2_with fail
    refine (A2Deck_any A n c bs0 _ ha (by omega)).mono ?_
    rintro e w1 ⟨D, cd, gs, wd, rfl, hg8, hw1, hw3, hgd, hod, hb1⟩
    have HGD := Lib.hid hgd
    have hrb := hb.up hb1
    have hcL : (cards gs).length ≤ 40 := by rw [cards_length]; omega
    have HOK := Lib.hid (good_deck hgd hw1 (by omega) hcL).1
    have HTOT := Lib.hid (good_tot hgd (by omega) (by omega))
    have HWA := Lib.hid (good_w hgd hw1 (by omega) hcL)
    go_wp2_with fail
    refine (a2Field_any D cd gs wd B n' c' cs0 _ hod.rd hgd hw1 (by omega) (by omega) hrb (by omega)).mono ?_
    rintro e w2 ⟨i, j, hij, hjw0, rfl, hb2⟩
    have hjw : j ≤ wd := by have := HWA.out; omega
    have HC0 := Lib.hid (good_codeK hgd hw1 (by omega) hcL hij hjw0)
    have TB := ba (b0 w2) (.cells #[.int .i64 (i : Int), .int .i64 (j : Int)] 27)
    have HT2 := Lib.hid (bs (bs hb1 hb2) TB)
    have HOD2 := Lib.hid ((hod.bs hb2).bs TB)
    have HKF0 := Lib.hid (show (w2.alloc (.cells #[.int .i64 (i : Int), .int .i64 (j : Int)] 27)).cell? ⟨w2.heap.size, 0, none⟩ = some (.int .i64 (i : Int)) from cell_new rfl rfl)
    have HKF1 := Lib.hid (show (w2.alloc (.cells #[.int .i64 (i : Int), .int .i64 (j : Int)] 27)).cell? ⟨w2.heap.size, 1, none⟩ = some (.int .i64 (j : Int)) from cell_new rfl rfl)
    have kf0 := HKF0.out
    have kf1 := HKF1.out
    have HGL := Lib.hid (show grpRes (cards gs) (i : Int) (j : Int) = grpL (cards gs) (i : Int) (j : Int) (cards gs).length by unfold grpRes; rw [if_pos HC0.out])
    have HFG := Lib.hid (show fgRes (cards gs) (i : Int) (j : Int) = pickL (cards gs) (grpL (cards gs) (i : Int) (j : Int) (cards gs).length) by unfold fgRes; rw [if_pos HC0.out])
    have HSE := Lib.hid (show (seqRes (cards gs) (i : Int) (j : Int)).length ≤ (grpL (cards gs) (i : Int) (j : Int) (cards gs).length).length by
      unfold seqRes
      rw [if_pos HC0.out]
      refine steps_le fun x hx1 hx2 => ?_
      have e1 := (hgd ((cards gs).getD (x - 1) []) (by simp [List.getD, List.getElem?_eq_getElem (show x - 1 < (cards gs).length by omega)])).1
      have e2 := (hgd ((cards gs).getD x []) (by simp [List.getD, List.getElem?_eq_getElem hx2])).1
      rw [part_len hij (by omega), part_len hij (by omega)])
    clear hgd hb1 hb2 TB hrb hod
    go_wp2_with fail
    refine (GroupsOf_any D cd gs (cards gs) (i : Int) (j : Int) _ HOD2.out.rd rfl (by have := HTOT.out; omega) HOD2.out.cap.1).mono ?_
    rw [HC0.out, HGL.out]
    rintro e w3 ⟨GA, cg, rfl, hog, hb3⟩
    obtain ⟨G, hG⟩ : ∃ G, G = grpL (cards gs) (i : Int) (j : Int) (cards gs).length := ⟨_, rfl⟩
    rw [← hG] at hog ⊢
    have HG := Lib.hid hG
    have HOG3 := Lib.hid (Ob.of hog)
    have HOD3 := Lib.hid (HOD2.out.bs hb3)
    have HT3 := Lib.hid (bs HT2.out hb3)
    replace kf0 := cell_later hb3 kf0
    replace kf1 := cell_later hb3 kf1
    clear hog hb3 hG
    go_wp2_with fail
    refine (FirstOfGroups_any D cd gs (cards gs) (i : Int) (j : Int) _ HOD3.out.rd rfl (by have := HTOT.out; omega) HOD3.out.cap.1).mono ?_
    rw [HC0.out, HFG.out]
    rintro e w4 ⟨FA, cf, fs, rfl, hf, hof, hb4⟩
    have HF := Lib.hid hf
    have HFL := Lib.hid (show fs.length = G.length by rw [HG.out, ← cards_length fs, hf, pickL_length])
    have HOF4 := Lib.hid hof
    have HOG4 := Lib.hid (HOG3.out.bs hb4)
    have HOD4 := Lib.hid (HOD3.out.bs hb4)
    have HT4 := Lib.hid (bs HT3.out hb4)
    replace kf0 := cell_later hb4 kf0
    replace kf1 := cell_later hb4 kf1
    clear hf hof hb4
    go_wp2_with fail
    refine (SequenceErrors_any D cd gs (cards gs) (i : Int) (j : Int) _ HOD4.out.rd rfl (by have := HTOT.out; omega) HOD4.out.cap.1).mono ?_
    rw [HC0.out]
    rintro e w5 ⟨SA, cs, rfl, _, hb5⟩
    obtain ⟨s, hs⟩ : ∃ s, s = (seqRes (cards gs) (i : Int) (j : Int)).length := ⟨_, rfl⟩
    rw [← hs] at HSE ⊢
    have HOF := Lib.hid (HOF4.out.bs hb5)
    have HOG := Lib.hid (HOG4.out.bs hb5)
    have HOD := Lib.hid (HOD4.out.bs hb5)
    have HT5 := Lib.hid (bs HT4.out hb5)
    replace HKF0 := Lib.hid (cell_later hb5 kf0)
    replace HKF1 := Lib.hid (cell_later hb5 kf1)
    have e1 : ((fs.length : Int) != (G.length : Int)) = false := bne_f (by have := HFL.out; omega)
    have e2 : decide (G.length < s) = false := by have := HSE.out; rw [← HG.out] at this; exact decide_eq_false (by omega)
    clear hs hb5 kf0 kf1
    go_wp2
    go_loopw [13, 14, 15, 16, 17] (fun x q _ _ _ wr => FgrR (cards gs) (i : Int) (j : Int) w5 wr x q) (fun _ q _ _ _ _ => gs.length - (intOf q).toNat)
    case atStart => exact ⟨0, Nat.zero_le _, rfl, rfl, b0 _⟩
    case round =>
      obtain ⟨wo, rfl⟩ : ∃ wo : World, wo = wr := ⟨_, rfl⟩
      obtain ⟨q, hq, rfl, rfl, hbw⟩ := hrel
      rw [cards_length] at hq
      by_cases hltg : q < gs.length
      · have hltL : q < (cards gs).length := by rw [cards_length]; exact hltg
        have i1 : (q : Int) < (gs.length : Int) := by omega
        by_cases hq0 : q = 0
        · have hbeg : q = 0 ∨ cmpC (cards gs) (i : Int) (j : Int) (q - 1) q ≠ 0 := .inl hq0
          have i2 : ((q : Int) == 0) = true := beq_t (by omega)
          have i3 : ¬ (0 : Int) < (q : Int) := by omega
          have hbx := hbw
          clear hq0 hbw
          have HM := Lib.hid (grp_at (n := (cards gs).length) hltL hbeg)
          obtain ⟨m, hm⟩ : ∃ m, m = (grpL (cards gs) (i : Int) (j : Int) q).length := ⟨_, rfl⟩
          rw [← hm] at HM ⊢
          have hmG : m < G.length := by rw [HG.out]; exact (List.getElem?_eq_some_iff.1 HM.out).1
          have hmf : m < fs.length := by rw [HFL.out]; exact hmG
          have HNX := Lib.hid (show (grpL (cards gs) (i : Int) (j : Int) (q + 1)).length = m + 1 by rw [grpL_yes hbeg, List.length_append, ← hm]; rfl)
          have HGM := Lib.hid (show (ints G)[m]? = some (.int .i64 (q : Int)) by rw [HG.out]; unfold ints; rw [List.getElem?_map, HM.out]; rfl)
          have HFC := Lib.hid (show fs[m].xs = gs[q].xs by
            have e1 := cards_get fs m hmf
            rw [HF.out] at e1
            unfold pickL at e1
            rw [List.getElem?_map, HM.out] at e1
            simp only [Option.map_some, Option.some.injEq, Int.toNat_natCast] at e1
            rw [← e1]
            simp [cards, hltg])
          have rG := (Ob.rd HOG.out).up hbx
          have rF := HOF.out.rd.up hbx
          have rD := HOD.out.rd.up hbx
          obtain ⟨b1, o1, hG1, _, hcG⟩ := rG.at_ hmG
          obtain ⟨b2, o2, hF1, _, hcF⟩ := rF.at_ hmf
          obtain ⟨b3, o3, hD1, _, hcD⟩ := rD.at_ hltg
          have d1 := hcG m _ HGM.out
          have d2 := hcF m hmf
          have d3 := hcD q hltg
          have rc1 := rF.card_at hmf
          have rc2 := rD.card_at hltg
          have hlf : fs[m].xs.length ≤ 1048576 := by rw [HFC.out]; have := (HGD.out gs[q].xs (List.mem_map.2 ⟨gs[q], List.getElem_mem hltg, rfl⟩)).1; omega
          have i5 : ¬ (G.length : Int) ≤ (m : Int) := by omega
          have i6 : (m : Int) < (G.length : Int) := by omega
          have i9 : ¬ G.length ≤ m := by omega
          have zm : IntKind.i64.wrap ((m : Int) + 1) = (m : Int) + 1 := by
            have := grpL_len (cards gs) (i : Int) (j : Int) (cards gs).length
            rw [← HG.out, cards_length] at this
            rw [IntKind.wrap_i64]
            omega
          have i7 : (m : Int) < (fs.length : Int) := by omega
          have l1 := fun x : Later wo => lat_cell x d1
          have l2 := fun x : Later wo => lat_cell x d2
          have l3 := fun x : Later wo => lat_cell x d3
          subst hG1
          subst hF1
          subst hD1
          clear hcG hcF hcD d1 d2 d3 rG rF rD hbeg hm
          go_wp2_with fail
          refine wp_region_later (by kernel_rfl) (by kernel_rfl) ?_
          repeat (go_big_quiet_step ((go_at_call 18; exact lat_call (spSameCard_eq _ _ _ _ _ _ _ HFC.out (lat_rd _ rc1) (lat_rd _ rc2) hlf))))
          refine wpQuiet_nil ?_
          intro w8 hb8
          have HB8 := Lib.hid (bs hbx hb8)
          clear l1 l2 l3 hb8 hbx rc1 rc2
          go_wp2
          go_roundw
          case rel =>
            have P : FgrR (cards gs) (i : Int) (j : Int) w5 w8 (.int .i64 ((m : Int) + 1)) (.int .i64 ((q : Int) + 1)) := ⟨q + 1, by omega, by go_num, by rw [HNX.out]; go_num, HB8.out⟩
            first | exact P | exact ⟨_, P, rfl⟩ | exact ⟨_, _, P, rfl, rfl⟩ | exact ⟨_, _, _, P, rfl, rfl, rfl⟩ | exact ⟨_, _, _, _, P, rfl, rfl, rfl, rfl⟩ | exact ⟨_, _, _, _, _, P, rfl, rfl, rfl, rfl, rfl⟩ | exact ⟨_, _, _, _, _, _, P, rfl, rfl, rfl, rfl, rfl, rfl⟩ | exact ⟨_, _, _, _, _, _, _, P, rfl, rfl, rfl, rfl, rfl, rfl, rfl⟩ | exact ⟨_, _, _, _, _, _, _, _, P, rfl, rfl, rfl, rfl, rfl, rfl, rfl, rfl⟩
          case measure => (simp [intOf]; try omega)
        · have i2 : ((q : Int) == 0) = false := beq_f (by omega)
          obtain ⟨z, hz⟩ : ∃ z, z = cmpR (part gs[q - 1].xs (i : Int) (j : Int)) (part gs[q].xs (i : Int) (j : Int)) := ⟨_, rfl⟩
          have HZ := Lib.hid hz
          have HZC := Lib.hid (show cmpC (cards gs) (i : Int) (j : Int) (q - 1) q = z by rw [hz]; exact cmpC_hd (by omega) hltg)
          have HG0 := Lib.hid (HGD.out gs[q - 1].xs (List.mem_map.2 ⟨gs[q - 1], List.getElem_mem (by omega), rfl⟩))
          have HG1 := Lib.hid (HGD.out gs[q].xs (List.mem_map.2 ⟨gs[q], List.getElem_mem hltg, rfl⟩))
          have rDa := HOD.out.rd.up hbw
          obtain ⟨b4, o4, hD4, _, hcD4⟩ := rDa.at_ hltg
          have d4 := hcD4 (q - 1) (by omega)
          have d5 := hcD4 q hltg
          have d6 := cell_later hbw HKF0.out
          have d7 := cell_later hbw HKF1.out
          have rc4 := rDa.card_at (show q - 1 < gs.length by omega)
          have rc5 := rDa.card_at hltg
          have hca4 := rDa.cap_at (show q - 1 < gs.length by omega)
          have hca5 := rDa.cap_at hltg
          have l4 := fun x : Later wo => lat_cell x d4
          have l5 := fun x : Later wo => lat_cell x d5
          have l6 := fun x : Later wo => lat_cell x d6
          have l7 := fun x : Later wo => lat_cell x d7
          have zq : IntKind.i64.wrap ((q : Int) - 1) = ((q - 1 : Nat) : Int) := by rw [IntKind.wrap_i64]; omega
          have i3 : (0 : Int) < (q : Int) := by omega
          have i4 : ((q - 1 : Nat) : Int) < (gs.length : Int) := by omega
          subst hD4
          clear hz hcD4 d4 d5 d6 d7 rDa
          go_wp2_with fail
          refine wp_region_later (by kernel_rfl) (by kernel_rfl) ?_
          repeat (go_big_quiet_step ((go_at_call 19; exact lat_call (spCompareFields_good _ _ _ _ _ _ i j wd z _ HZ.out HG0.out HG1.out (by omega) (by omega) hij hjw (lat_rd _ rc4) (lat_rd _ rc5) hca4 hca5))))
          refine wpQuiet_nil ?_
          intro w7 hb7
          have HB7 := Lib.hid (bs hbw hb7)
          clear l4 l5 l6 l7 hb7 rc4 rc5 zq
          by_cases hz0 : z = 0
          · have HNX := Lib.hid (show (grpL (cards gs) (i : Int) (j : Int) (q + 1)).length = (grpL (cards gs) (i : Int) (j : Int) q).length by rw [grpL_no hq0 (by rw [HZC.out, hz0])])
            have i8 : (z != 0) = false := bne_f hz0
            obtain ⟨m, hm⟩ : ∃ m, m = (grpL (cards gs) (i : Int) (j : Int) q).length := ⟨_, rfl⟩
            rw [← hm] at HNX ⊢
            clear hm hz0
            go_wp2
            go_roundw
            case rel =>
              have P : FgrR (cards gs) (i : Int) (j : Int) w5 w7 (.int .i64 (m : Int)) (.int .i64 ((q : Int) + 1)) := ⟨q + 1, by omega, by go_num, by rw [HNX.out], HB7.out⟩
              first | exact P | exact ⟨_, P, rfl⟩ | exact ⟨_, _, P, rfl, rfl⟩ | exact ⟨_, _, _, P, rfl, rfl, rfl⟩ | exact ⟨_, _, _, _, P, rfl, rfl, rfl, rfl⟩ | exact ⟨_, _, _, _, _, P, rfl, rfl, rfl, rfl, rfl⟩ | exact ⟨_, _, _, _, _, _, P, rfl, rfl, rfl, rfl, rfl, rfl⟩ | exact ⟨_, _, _, _, _, _, _, P, rfl, rfl, rfl, rfl, rfl, rfl, rfl⟩ | exact ⟨_, _, _, _, _, _, _, _, P, rfl, rfl, rfl, rfl, rfl, rfl, rfl, rfl⟩
            case measure => (simp [intOf]; try omega)
          · have hbeg : q = 0 ∨ cmpC (cards gs) (i : Int) (j : Int) (q - 1) q ≠ 0 := .inr (by rw [HZC.out]; exact hz0)
            have i8 : (z != 0) = true := bne_t hz0
            have hbx := HB7.out
            clear hz0 hbw
            have HM := Lib.hid (grp_at (n := (cards gs).length) hltL hbeg)
            obtain ⟨m, hm⟩ : ∃ m, m = (grpL (cards gs) (i : Int) (j : Int) q).length := ⟨_, rfl⟩
            rw [← hm] at HM ⊢
            have hmG : m < G.length := by rw [HG.out]; exact (List.getElem?_eq_some_iff.1 HM.out).1
            have hmf : m < fs.length := by rw [HFL.out]; exact hmG
            have HNX := Lib.hid (show (grpL (cards gs) (i : Int) (j : Int) (q + 1)).length = m + 1 by rw [grpL_yes hbeg, List.length_append, ← hm]; rfl)
            have HGM := Lib.hid (show (ints G)[m]? = some (.int .i64 (q : Int)) by rw [HG.out]; unfold ints; rw [List.getElem?_map, HM.out]; rfl)
            have HFC := Lib.hid (show fs[m].xs = gs[q].xs by
              have e1 := cards_get fs m hmf
              rw [HF.out] at e1
              unfold pickL at e1
              rw [List.getElem?_map, HM.out] at e1
              simp only [Option.map_some, Option.some.injEq, Int.toNat_natCast] at e1
              rw [← e1]
              simp [cards, hltg])
            have rG := (Ob.rd HOG.out).up hbx
            have rF := HOF.out.rd.up hbx
            have rD := HOD.out.rd.up hbx
            obtain ⟨b1, o1, hG1, _, hcG⟩ := rG.at_ hmG
            obtain ⟨b2, o2, hF1, _, hcF⟩ := rF.at_ hmf
            obtain ⟨b3, o3, hD1, _, hcD⟩ := rD.at_ hltg
            have d1 := hcG m _ HGM.out
            have d2 := hcF m hmf
            have d3 := hcD q hltg
            have rc1 := rF.card_at hmf
            have rc2 := rD.card_at hltg
            have hlf : fs[m].xs.length ≤ 1048576 := by rw [HFC.out]; have := (HGD.out gs[q].xs (List.mem_map.2 ⟨gs[q], List.getElem_mem hltg, rfl⟩)).1; omega
            have i5 : ¬ (G.length : Int) ≤ (m : Int) := by omega
            have i6 : (m : Int) < (G.length : Int) := by omega
            have i9 : ¬ G.length ≤ m := by omega
            have zm : IntKind.i64.wrap ((m : Int) + 1) = (m : Int) + 1 := by
              have := grpL_len (cards gs) (i : Int) (j : Int) (cards gs).length
              rw [← HG.out, cards_length] at this
              rw [IntKind.wrap_i64]
              omega
            have i7 : (m : Int) < (fs.length : Int) := by omega
            have l1 := fun x : Later w7 => lat_cell x d1
            have l2 := fun x : Later w7 => lat_cell x d2
            have l3 := fun x : Later w7 => lat_cell x d3
            subst hG1
            subst hF1
            injection hD1 with f1
            injection f1 with f1 f2
            subst f1
            subst f2
            clear hcG hcF hcD d1 d2 d3 rG rF rD hbeg hm
            go_wp2_with fail
            refine wp_region_later (by kernel_rfl) (by kernel_rfl) ?_
            repeat (go_big_quiet_step ((go_at_call 18; exact lat_call (spSameCard_eq _ _ _ _ _ _ _ HFC.out (lat_rd _ rc1) (lat_rd _ rc2) hlf))))
            refine wpQuiet_nil ?_
            intro w8 hb8
            have HB8 := Lib.hid (bs hbx hb8)
            clear l1 l2 l3 hb8 hbx rc1 rc2
            go_wp2
            go_roundw
            case rel =>
              have P : FgrR (cards gs) (i : Int) (j : Int) w5 w8 (.int .i64 ((m : Int) + 1)) (.int .i64 ((q : Int) + 1)) := ⟨q + 1, by omega, by go_num, by rw [HNX.out]; go_num, HB8.out⟩
              first | exact P | exact ⟨_, P, rfl⟩ | exact ⟨_, _, P, rfl, rfl⟩ | exact ⟨_, _, _, P, rfl, rfl, rfl⟩ | exact ⟨_, _, _, _, P, rfl, rfl, rfl, rfl⟩ | exact ⟨_, _, _, _, _, P, rfl, rfl, rfl, rfl, rfl⟩ | exact ⟨_, _, _, _, _, _, P, rfl, rfl, rfl, rfl, rfl, rfl⟩ | exact ⟨_, _, _, _, _, _, _, P, rfl, rfl, rfl, rfl, rfl, rfl, rfl⟩ | exact ⟨_, _, _, _, _, _, _, _, P, rfl, rfl, rfl, rfl, rfl, rfl, rfl, rfl⟩
            case measure => (simp [intOf]; try omega)
      · obtain rfl : q = gs.length := by omega
        have HE := Lib.hid (show (((grpL (cards gs) (i : Int) (j : Int) gs.length).length : Nat) : Int) = (G.length : Int) by rw [HG.out, cards_length])
        obtain ⟨m, hm⟩ : ∃ m : Nat, m = (grpL (cards gs) (i : Int) (j : Int) gs.length).length := ⟨_, rfl⟩
        rw [← hm] at HE ⊢
        clear hm
        go_wp2
        go_ret
        exact ⟨ret_bool (beq_t HE.out), bs HT5.out hbw⟩

set_option maxRecDepth 100000 in
theorem lawGroups_lifted (os : Os) (started : os.Started) (H : Type) (enc : TypeId × Value → H) :
    ReturnsInHanded {} Try.checked os 6 .any (Rows.fnGroupsSpec.pre6 enc Try.prog Try.f6 Rows.fnGroupsRow.domain false) (Rows.fnGroupsSpec.post enc Try.prog Try.f6 false true false false) := by
  refine returnsInHanded_of_change (C := Try.checked) lawOwn started (by kernel_rfl) Try.func6
    (ChangeSpec.witness6 (enc := enc) (C := Try.checked) false ⟨#[], #[.slice none 0 0, .slice none 0 0], []⟩ 8 (by kernel_rfl) (by kernel_rfl) (by kernel_rfl) (by kernel_rfl)) ?_
  intro W base args ds gs before hval0 hW _ _
  have hval : ∀ (j : Nat) t v, Try.f6.params[j]? = some t → args[j]? = some v → Value.okWide Try.prog W .any base t v := hval0
  clear hval0
  have hW0 : DataW.Whole enc Try.prog Try.f6.params.toList Rows.fnGroupsSpec.vars false W args.toList ds gs before := hW
  clear hW
  have hW := hW0
  obtain ⟨p, q, hA, hV, _, _, _⟩ := hW
  rw [Try.params6] at hA hval
  obtain ⟨v0, vs0, d0, ds0, p0, q0, hargs, rfl, rfl, h0, hA0⟩ := trodAll_cons hA
  obtain ⟨v1, vs1, d1, ds1, p1, q1, rfl, rfl, rfl, h1, hA1⟩ := trodAll_cons hA0
  obtain ⟨rfl, rfl, rfl⟩ := trodAll_nil hA1
  have hargs2 : args = #[v0, v1] := by cases args; simp_all
  clear hargs
  subst hargs2
  obtain ⟨A0, c0, bs0, rfl, hc0, hm0, r0⟩ := in_bytes Try.underlying22 Try.underlying5 (by kernel_rfl) (hval 0 22 v0 rfl rfl) h0
  obtain ⟨A1, c1, bs1, rfl, hc1, hm1, r1⟩ := in_bytes Try.underlying22 Try.underlying5 (by kernel_rfl) (hval 1 22 v1 rfl rfl) h1
  have hcall := lawGroups_any A0 _ c0 bs0 A1 _ c1 bs1 W r0 r1
  refine hcall.mono fun e W' ⟨he, hb⟩ => ⟨_, he, ?_⟩
  exact post_law (f := Try.f6) (s := Rows.fnGroupsSpec) hW0 rfl (tb := 4) rfl Try.underlying4 rfl lawLaid (by kernel_rfl) hb

theorem fnGroups_holds : Rows.FnGroupsSaid :=
  OpenClaim.holds_of_wide 6 Try.f6 rfl rfl rfl rfl rfl rfl rfl ⟨rfl, rfl, rfl, rfl, rfl⟩ rfl rfl rfl rfl rfl (by kernel_rfl) Try.func6 (by kernel_rfl)
    (of_decide_eq_true (by kernel_rfl)) (by unfold Func.isWrapper; first | (rw [if_pos (by decide +kernel)]; kernel_rfl) | (rw [if_neg (by decide +kernel)]; exact ⟨rfl, rfl⟩))
    (fun os started H enc _ => lawGroups_lifted os started H enc)
#print axioms fnGroups_holds
end Go.Proofs.Ytdppmlchabogaaa
