/- The law FnSelected answers true at every input, and its arguments stay as they were; conditions: none. -/
import Derived.Test.YtdppmlchabogaaaRows
import Derived.Test.YtdppmlchabogaaaLawBase
import Derived.Test.YtdppmlchabogaaaOpenBytes
import Derived.Test.YtdppmlchabogaaaTwoDraw
import Derived.Test.YtdppmlchabogaaaTwoLaw
import Derived.Test.YtdppmlchabogaaaSelLaw
import Derived.Test.YtdppmlchabogaaaSelect3
import Derived.Test.YtdppmlchabogaaaBoxEnd
import Derived.Deep.RegionHeld3
import Derived.Deep.DeepCutAuto
namespace Go.Proofs.Ytdppmlchabogaaa
open Go.RowKit Go.ChangeShapes Go.WideShapes Go.ChangeAt

set_option maxRecDepth 100000 in
set_option maxHeartbeats 16000000 in
theorem lawSelected_any (A : Option Addr) (n c : Nat) (bs0 : List UInt8) (B : Option Addr) (n' c' : Nat) (cs0 : List UInt8) (w : World) (ha : Rd w w.heap.size 1 A n (byts bs0)) (hb : Rd w w.heap.size 1 B n' (byts cs0)) :
    Calls Try.prog 8 #[.slice A n c, .slice B n' c'] w fun e w' => e = .returned (.bool true) ∧ Below w.heap.size w w' := by
  by_cases hlong : 3000 < n ∨ 3000 < n'
  · go_enter Try.func8, Try.ntmps8
    go_wp2_with fail
    refine (a2Long_yes A B n c n' c' _ hlong).mono ?_; rintro e w1 ⟨rfl, rfl⟩
    go_wp2
    go_ret
    exact ⟨rfl, b0 _⟩
  · have hn : ¬ 3000 < n := fun h => hlong (.inl h)
    have hn' : ¬ 3000 < n' := fun h => hlong (.inr h)
    clear hlong
    go_enter Try.func8, Try.ntmps8
    go_wp2_with fail
    refine (a2Long_no A B n c n' c' _ hn hn').mono ?_; rintro e w1 ⟨rfl, rfl⟩
    go_wp2_with fail
    refine (A2Two_any A n c bs0 _ ha (by omega)).mono ?_
    rintro e w1 ⟨D, cd, gs, E, ce, ks, i, j, rfl, hg7, _, hgd, _, hij, hj2, hod, _, hb1⟩
    have HGD := Lib.hid hgd
    have hgL : (cards gs).length ≤ 40 := by rw [cards_length]; omega
    have HCG := Lib.hid (good_code2 hgd (by omega) (by omega) hgL hij hj2)
    have HTG := Lib.hid (good_tot hgd (by omega) (by omega))
    have TB := ba (b0 w1) (.cells #[.int .i64 (i : Int), .int .i64 (j : Int)] 27)
    have HT2 := Lib.hid (bs hb1 TB)
    have HOD2 := Lib.hid (hod.bs TB)
    have hrb := (hb.up hb1).a1 (.cells #[.int .i64 (i : Int), .int .i64 (j : Int)] 27)
    have kf0 := (show (w1.alloc (.cells #[.int .i64 (i : Int), .int .i64 (j : Int)] 27)).cell? ⟨w1.heap.size, 0, none⟩ = some (.int .i64 (i : Int)) from cell_new rfl rfl)
    have kf1 := (show (w1.alloc (.cells #[.int .i64 (i : Int), .int .i64 (j : Int)] 27)).cell? ⟨w1.heap.size, 1, none⟩ = some (.int .i64 (j : Int)) from cell_new rfl rfl)
    clear hgd hb1 TB hod
    go_wp2_with fail
    refine (spSortedBy_any D cd gs (cards gs) (i : Int) (j : Int) _ HOD2.out.rd rfl (by have := HTG.out; omega) HOD2.out.cap.1).mono ?_
    rw [HCG.out, sbRes_0 HCG.out]
    rintro e w3 ⟨XA, cx, xs, rfl, hx, hox, hb3⟩
    have HX := Lib.hid hx
    have HXL := Lib.hid (show xs.length = gs.length by rw [← cards_length xs, hx, sortedL_length, cards_length])
    have hxl : xs.length ≤ 7 := by have := HXL.out; omega
    have HGX := Lib.hid (show GoodD 2 (cards xs) by rw [hx]; exact good_srt HGD.out)
    have HTX := Lib.hid (good_tot HGX.out (by omega) (by omega))
    have HOX3 := Lib.hid hox
    have HT3 := Lib.hid (bs HT2.out hb3)
    replace hrb := hrb.up hb3
    replace kf0 := cell_later hb3 kf0
    replace kf1 := cell_later hb3 kf1
    clear hx hox hb3
    by_cases hx0 : xs.length = 0
    · have e1 : ((xs.length : Int) == 0) = true := beq_t (by omega)
      go_wp2
      go_ret
      exact ⟨rfl, HT3.out⟩
    · have e1 : ((xs.length : Int) == 0) = false := beq_f (by omega)
      go_wp2_with fail
      refine (a2At_any B n' c' cs0 0 xs.length _ hrb (by omega) (by omega) (by omega) (by omega)).mono ?_
      rintro e w4 ⟨k, hk, rfl, rfl⟩
      have HXX := Lib.hid (HGX.out xs[k].xs (List.mem_map.2 ⟨xs[k], List.getElem_mem hk, rfl⟩))
      have HCX := Lib.hid (show codeK (cards xs) (i : Int) (j : Int) = 0 from good_code2 HGX.out (by omega) (by omega) (by rw [cards_length]; omega) hij hj2)
      have HST := Lib.hid (show (stepsL (cards xs) (i : Int) (j : Int) (cards xs).length).length = 0 by rw [HX.out]; exact good_steps HGD.out (by omega) (by omega) hgL hij hj2)
      have hkc : k < (cards xs).length := by rw [cards_length]; exact hk
      obtain ⟨t, ht⟩ : ∃ t, t = textL (part (cards xs)[k] (i : Int) (j : Int)) := ⟨_, rfl⟩
      have hck : (cards xs)[k] = xs[k].xs := by simp [cards]
      have HTP := Lib.hid (show textL (part xs[k].xs (i : Int) (j : Int)) = t by rw [ht, hck])
      have HTS := Lib.hid (show (bs_ t).size = j - i ∧ chaB (bs_ t) = true by
        have hl := part_len hij (show j ≤ xs[k].xs.length by have := HXX.out.1; omega)
        rw [← HTP.out]
        exact ⟨by rw [bs_size, textL_length, hl], textL_ch (good_part HXX.out _ _)⟩)
      have HC1 := Lib.hid (show colC [cards xs] true [bs_ t] (i : Int) (j : Int) = 0 from good_col (by intro L hL; rw [List.mem_singleton] at hL; subst hL; exact ⟨HGX.out, by rw [cards_length]; omega⟩) (by omega) (by omega) hij hj2 (by intro s hs; rw [List.mem_singleton] at hs; subst hs; exact HTS.out))
      have HC2 := Lib.hid (show colC [cards xs] true [bs_ t, bs_ t] (i : Int) (j : Int) = 0 from good_col (by intro L hL; rw [List.mem_singleton] at hL; subst hL; exact ⟨HGX.out, by rw [cards_length]; omega⟩) (by omega) (by omega) hij hj2 (by intro s hs; simp at hs; subst hs; exact HTS.out))
      have HSR := Lib.hid (show selRes (cards xs) (i : Int) (j : Int) (bs_ t) (bs_ t) = (cards xs).filter (fun x => decide (keyN (i : Int) (j : Int) x = keyN (i : Int) (j : Int) (cards xs)[k])) by rw [selRes_0 HC2.out, ht]; exact sel_keep HCX.out hij hkc)
      have HFC := Lib.hid (fndC_0 HC1.out HST.out)
      obtain ⟨at_, hat⟩ : ∃ at_, at_ = ((cards xs).filter (fun x => decide (keyN (i : Int) (j : Int) x < keyN (i : Int) (j : Int) (cards xs)[k]))).length := ⟨_, rfl⟩
      obtain ⟨m, hm⟩ : ∃ m, m = ((cards xs).filter (fun x => decide (keyN (i : Int) (j : Int) x = keyN (i : Int) (j : Int) (cards xs)[k]))).length := ⟨_, rfl⟩
      have HFA := Lib.hid (show fndA (cards xs) (i : Int) (j : Int) (bs_ t) = (at_ : Int) by rw [fndA_0 HFC.out]; unfold cntP; rw [List.take_length, ht, sel_low HCX.out hij hkc, hat])
      have HFB := Lib.hid (show fndB (cards xs) (i : Int) (j : Int) (bs_ t) = (m : Int) by rw [fndB_0 HFC.out]; unfold cntP; rw [List.take_length, ht, sel_eq HCX.out hij hkc, hm])
      have HPL := Lib.hid (sel_place HCX.out hij HST.out hkc hat hm)
      have HM := Lib.hid hm
      clear ht hck hat hm hrb
      have rX := HOX3.out.rd
      obtain ⟨b1, o1, hXA, _, hcX⟩ := rX.at_ hk
      have d1 := hcX k hk
      have rc1 := rX.card_at hk
      have hca1 := rX.cap_at hk
      have i1 : (k : Int) < (xs.length : Int) := by omega
      subst hXA
      clear hcX rX
      have hz1 : w1.heap.size < w3.heap.size := World.block_lt_of_cell? _ _ kf0
      have hz2 : b1 < w3.heap.size := World.block_lt_of_cell? _ _ d1
      go_wp2_with fail
      go_cut [11, 12] (fun s11 s12 wx => ∃ p Q d, s11 = .pointer (some ⟨p, 0, none⟩) ∧ s12 = .int .i64 0 ∧ wx.cell? ⟨p, 0, none⟩ = some (.slice Q (j - i) d) ∧ Rd wx wx.heap.size 1 Q (j - i) (ints (part xs[k].xs (i : Int) (j : Int))) ∧ Below w3.heap.size w3 wx)
      case first =>
        go_region_held3 (fun w' => w'.cell? ⟨w1.heap.size, 0, none⟩ = some (.int .i64 (i : Int)) ∧ w'.cell? ⟨w1.heap.size, 1, none⟩ = some (.int .i64 (j : Int)) ∧ w'.cell? ⟨b1, o1 + k, none⟩ = some (.slice xs[k].a xs[k].xs.length xs[k].c)) (first | exact ⟨kf0, kf1, d1⟩ | exact ⟨cell_alloc kf0 _, cell_alloc kf1 _, cell_alloc d1 _⟩ | exact ⟨set_far kf0 (by omega), set_far kf1 (by omega), set_far d1 (by omega)⟩ | go_keep)
          ((go_at_call 39; refine (spPartOf_good _ _ xs[k].xs i j 2 _ HXX.out (by omega) (by omega) hij hj2 ?_ hca1).mono ?_; (first | exact rc1 | exact rc1.drew | exact rc1.a1 _ | exact (rc1.a1 _).drew | exact (rc1.drew).a1 _); rintro e w4 ⟨Q, d, rfl, hoQ, hb4⟩; have BP : Below w3.heap.size w3 w4 := (by first | exact bs (b0 w3) hb4 | exact bs (b0 w3).drew hb4 | exact bs (ba (b0 w3) _) hb4 | exact bs (ba (b0 w3) _).drew hb4); replace kf0 := cell_later BP kf0; replace kf1 := cell_later BP kf1; replace d1 := cell_later BP d1; (try have bq : BoxAt w4 w3.heap.size := ⟨cell_later hb4 (cell_new rfl rfl), froz_later hb4 (froz_new rfl) (by simp)⟩); (try (have kq := bq.1; have fq := bq.2))))
        all_goals go_wp2_with fail
        all_goals go_meet
        all_goals first
          | exact ⟨_, Q, d, rfl, rfl, cell_new rfl rfl, hoQ.rd.a1 _, ba BP _⟩
          | exact ⟨_, Q, d, rfl, rfl, World.cell?_setCell_same _ _ _ kq, (hoQ.below _ _ _ (by simp)).rd, bset BP _ _ _ (Nat.le_refl _)⟩
      obtain ⟨p, Q, d, rfl, rfl, kp, rq, hb4⟩ := hcut
      obtain ⟨w4, hw4⟩ : ∃ x : World, x = wc := ⟨_, rfl⟩
      subst hw4
      have HOX4 := Lib.hid (HOX3.out.bs hb4)
      have HT4 := Lib.hid (bs HT3.out hb4)
      replace kf0 := cell_later hb4 kf0
      replace kf1 := cell_later hb4 kf1
      have HPL2 := Lib.hid (part_len hij (show j ≤ xs[k].xs.length by have := HXX.out.1; omega))
      have HRT := Lib.hid (show ∀ W : World, Rd W W.heap.size 1 Q (j - i) (ints (part xs[k].xs (i : Int) (j : Int))) → Calls Try.prog 40 #[.agg #[.slice Q (j - i) d]] W fun e w' => e = .returned (.tuple #[.string (bs_ t), .int .i64 0]) ∧ Below W.heap.size W w' from fun W x => by
        have := spReadText_good Q d (j - i) (part xs[k].xs (i : Int) (j : Int)) W HPL2.out (by omega) (by omega) (by
          refine List.all_eq_true.2 fun m hm => List.all_eq_true.1 HXX.out.2.2 m ?_
          exact List.mem_of_mem_drop (List.mem_of_mem_take hm)) (good_part HXX.out _ _) x
        rwa [HTP.out] at this)
      have HTZ := Lib.hid (show (bs_ t).size ≤ 1048576 by rw [HTS.out.1]; omega)
      have HHX := Lib.hid (show xs.length + tot xs ≤ 1048576 by have := HTX.out; omega)
      clear hb4 d1 rc1 hca1 i1 hz1 hz2
      go_wp2_with fail
      refine (HRT.out _ rq).mono ?_; rintro e w5 ⟨rfl, hb5⟩
      have HOX5 := Lib.hid (HOX4.out.bs hb5)
      have HT5 := Lib.hid (bs HT4.out hb5)
      replace kf0 := cell_later hb5 kf0
      replace kf1 := cell_later hb5 kf1
      clear hb5 kp rq
      go_wp2_with fail
      refine (SelectEqual_any _ cx xs (cards xs) (i : Int) (j : Int) (bs_ t) _ HOX5.out.rd rfl HHX.out HOX5.out.cap.1 HTZ.out).mono ?_
      rw [HC1.out, HSR.out]
      rintro e w6 ⟨YA, cy, ys, rfl, hy, hoy, hb6⟩
      have HY := Lib.hid hy
      have HOY6 := Lib.hid hoy
      have HOX6 := Lib.hid (HOX5.out.bs hb6)
      have HT6 := Lib.hid (bs HT5.out hb6)
      replace kf0 := cell_later hb6 kf0
      replace kf1 := cell_later hb6 kf1
      clear hy hoy hb6
      go_wp2_with fail
      refine (SelectBetween_any _ cx xs (cards xs) (i : Int) (j : Int) (bs_ t) (bs_ t) _ HOX6.out.rd rfl HHX.out HOX6.out.cap.1 HTZ.out HTZ.out).mono ?_
      rw [HC2.out, HSR.out]
      rintro e w7 ⟨ZA, cz, zs, rfl, hzz, hoz, hb7⟩
      have HYZ := Lib.hid (show cards ys = cards zs by rw [HY.out, hzz])
      have HOZ7 := Lib.hid hoz
      have HOY7 := Lib.hid (HOY6.out.bs hb7)
      have HOX7 := Lib.hid (HOX6.out.bs hb7)
      have HT7 := Lib.hid (bs HT6.out hb7)
      replace kf0 := cell_later hb7 kf0
      replace kf1 := cell_later hb7 kf1
      clear hzz hoz hb7
      have HYL := Lib.hid (show ys.length = m by rw [← cards_length ys, HY.out, HM.out])
      have hym : ys.length ≤ 7 := by
        have := HYL.out
        have := HPL.out.1
        rw [cards_length] at this
        omega
      have HGY := Lib.hid (show GoodD 2 (cards ys) by rw [HY.out]; exact good_sub HGX.out fun x hx => (List.mem_filter.1 hx).1)
      have HYT := Lib.hid (good_tot HGY.out (by omega) (by omega))
      have HYB := Lib.hid (show ys.length + tot ys ≤ 1048576 by have := HYT.out; omega)
      go_wp2_with fail
      refine (FindCards_any _ cx xs (cards xs) (i : Int) (j : Int) (bs_ t) _ HOX7.out.rd rfl HHX.out HOX7.out.cap.1 HTZ.out).mono ?_
      rw [HFA.out, HFB.out, HFC.out]
      rintro e w8 ⟨rfl, hb8⟩
      have HOZ := Lib.hid (HOZ7.out.bs hb8)
      have HOY := Lib.hid (HOY7.out.bs hb8)
      have HOX := Lib.hid (HOX7.out.bs hb8)
      have HT8 := Lib.hid (bs HT7.out hb8)
      clear hb8 kf0 kf1
      have p1 := HPL.out.1
      rw [cards_length] at p1
      have p2 := HPL.out.2.1
      have p3 := HPL.out.2.2.1
      have p4 := HYL.out
      have e2 : ((m : Int) != (ys.length : Int)) = false := bne_f (by omega)
      have e3 : ¬ (m : Int) < 1 := by omega
      have e4 : ¬ (at_ : Int) < 0 := by omega
      have e5 : ¬ (xs.length : Int) < (at_ : Int) + (m : Int) := by omega
      have e6 : ¬ (k : Int) < (at_ : Int) := by omega
      have e7 : ¬ (at_ : Int) + (m : Int) ≤ (k : Int) := by omega
      have e8 : decide (k < at_) = false := decide_eq_false (by omega)
      have p5 : at_ + m ≤ 7 := by omega
      have zy : ys.length ≤ m := by omega
      have zy' : m ≤ ys.length := by omega
      clear p4
      go_wp2_with fail
      refine (spSameDeck_eq YA ZA cy cz ys zs _ HYZ.out HOY.out.rd HOZ.out.rd HYB.out).mono ?_
      rintro e w9 ⟨rfl, hb9⟩
      have HT9 := Lib.hid (bs HT8.out hb9)
      have HOY9 := Lib.hid (HOY.out.bs hb9)
      have HOX9 := Lib.hid (HOX.out.bs hb9)
      clear hb9
      go_wp2
      go_loopw [22] (fun q wr => ∃ v : Nat, v ≤ m ∧ q = .int .i64 v ∧ Below w9.heap.size w9 wr) (fun q _ => m - (intOf q).toNat)
      case atStart => exact ⟨0, Nat.zero_le _, rfl, b0 _⟩
      case round =>
        obtain ⟨wo, rfl⟩ : ∃ wo : World, wo = wr := ⟨_, rfl⟩
        obtain ⟨v, hv, rfl, hbw⟩ := hrel
        by_cases hlt : v < m
        · have hvy : v < ys.length := by omega
          have hvx : at_ + v < xs.length := by omega
          have HEQ := Lib.hid (show ys[v].xs = xs[at_ + v].xs by
            have h1 := HPL.out.2.2.2 v hlt
            rw [← HY.out, cards_get ys v hvy, cards_get xs (at_ + v) hvx] at h1
            injection h1)
          have rY := HOY9.out.rd.up hbw
          have rX := HOX9.out.rd.up hbw
          obtain ⟨b1, o1, hY1, _, hcY⟩ := rY.at_ hvy
          obtain ⟨b2, o2, hX1, _, hcX⟩ := rX.at_ hvx
          have d1 := hcY v hvy
          have d2 := hcX (at_ + v) hvx
          have rc1 := rY.card_at hvy
          have rc2 := rX.card_at hvx
          have hlf : ys[v].xs.length ≤ 1048576 := by have := (HGY.out ys[v].xs (List.mem_map.2 ⟨ys[v], List.getElem_mem hvy, rfl⟩)).1; omega
          have i1 : (v : Int) < (m : Int) := by omega
          have i2 : (v : Int) < (ys.length : Int) := by omega
          have z1 : IntKind.i64.wrap ((at_ : Int) + (v : Int)) = ((at_ + v : Nat) : Int) := by rw [IntKind.wrap_i64]; omega
          have i3 : ((at_ + v : Nat) : Int) < (xs.length : Int) := by omega
          have l1 := fun x : Later wo => lat_cell x d1
          have l2 := fun x : Later wo => lat_cell x d2
          subst hY1
          injection hX1 with f1
          injection f1 with f1 f2
          subst f1
          subst f2
          clear hcY hcX d1 d2 rY rX
          go_wp2_with fail
          refine wp_region_later (by kernel_rfl) (by kernel_rfl) ?_
          repeat (go_big_quiet_step ((go_at_call 18; exact lat_call (spSameCard_eq _ _ _ _ _ _ _ HEQ.out (lat_rd _ rc1) (lat_rd _ rc2) hlf))))
          refine wpQuiet_nil ?_
          intro w10 hb10
          have HB10 := Lib.hid (bs hbw hb10)
          clear l1 l2 hb10 hbw rc1 rc2 z1
          go_wp2
          go_roundw
          case rel => exact ⟨v + 1, by omega, by go_num, HB10.out⟩
          case measure => (simp [intOf]; try omega)
        · obtain rfl : v = m := by omega
          go_wp2
          go_ret
          exact ⟨rfl, bs HT9.out hbw⟩

set_option maxRecDepth 100000 in
theorem lawSelected_lifted (os : Os) (started : os.Started) (H : Type) (enc : TypeId × Value → H) :
    ReturnsInHanded {} Try.checked os 8 .any (Rows.fnSelectedSpec.pre6 enc Try.prog Try.f8 Rows.fnSelectedRow.domain false) (Rows.fnSelectedSpec.post enc Try.prog Try.f8 false true false false) := by
  refine returnsInHanded_of_change (C := Try.checked) lawOwn started (by kernel_rfl) Try.func8
    (ChangeSpec.witness6 (enc := enc) (C := Try.checked) false ⟨#[], #[.slice none 0 0, .slice none 0 0], []⟩ 8 (by kernel_rfl) (by kernel_rfl) (by kernel_rfl) (by kernel_rfl)) ?_
  intro W base args ds gs before hval0 hW _ _
  have hval : ∀ (j : Nat) t v, Try.f8.params[j]? = some t → args[j]? = some v → Value.okWide Try.prog W .any base t v := hval0
  clear hval0
  have hW0 : DataW.Whole enc Try.prog Try.f8.params.toList Rows.fnSelectedSpec.vars false W args.toList ds gs before := hW
  clear hW
  have hW := hW0
  obtain ⟨p, q, hA, hV, _, _, _⟩ := hW
  rw [Try.params8] at hA hval
  obtain ⟨v0, vs0, d0, ds0, p0, q0, hargs, rfl, rfl, h0, hA0⟩ := trodAll_cons hA
  obtain ⟨v1, vs1, d1, ds1, p1, q1, rfl, rfl, rfl, h1, hA1⟩ := trodAll_cons hA0
  obtain ⟨rfl, rfl, rfl⟩ := trodAll_nil hA1
  have hargs2 : args = #[v0, v1] := by cases args; simp_all
  clear hargs
  subst hargs2
  obtain ⟨A0, c0, bs0, rfl, hc0, hm0, r0⟩ := in_bytes Try.underlying22 Try.underlying5 (by kernel_rfl) (hval 0 22 v0 rfl rfl) h0
  obtain ⟨A1, c1, bs1, rfl, hc1, hm1, r1⟩ := in_bytes Try.underlying22 Try.underlying5 (by kernel_rfl) (hval 1 22 v1 rfl rfl) h1
  have hcall := lawSelected_any A0 _ c0 bs0 A1 _ c1 bs1 W r0 r1
  refine hcall.mono fun e W' ⟨he, hb⟩ => ⟨_, he, ?_⟩
  exact post_law (f := Try.f8) (s := Rows.fnSelectedSpec) hW0 rfl (tb := 4) rfl Try.underlying4 rfl lawLaid (by kernel_rfl) hb

theorem fnSelected_holds : Rows.FnSelectedSaid :=
  OpenClaim.holds_of_wide 8 Try.f8 rfl rfl rfl rfl rfl rfl rfl ⟨rfl, rfl, rfl, rfl, rfl⟩ rfl rfl rfl rfl rfl (by kernel_rfl) Try.func8 (by kernel_rfl)
    (of_decide_eq_true (by kernel_rfl)) (by unfold Func.isWrapper; first | (rw [if_pos (by decide +kernel)]; kernel_rfl) | (rw [if_neg (by decide +kernel)]; exact ⟨rfl, rfl⟩))
    (fun os started H enc _ => lawSelected_lifted os started H enc)
#print axioms fnSelected_holds
end Go.Proofs.Ytdppmlchabogaaa
