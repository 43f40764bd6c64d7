/- The law FnMatched answers true at every input, and its argument stays as it was; conditions: none. -/
import Derived.Test.YtdppmlchabogaaaRows
import Derived.Test.YtdppmlchabogaaaLawBase
import Derived.Test.YtdppmlchabogaaaOpenBytes
import Derived.Test.YtdppmlchabogaaaTwoDraw
import Derived.Test.YtdppmlchabogaaaTwoLaw
namespace Go.Proofs.Ytdppmlchabogaaa
open Go.RowKit Go.ChangeShapes Go.WideShapes Go.ChangeAt

/-! ### the plain law -/
def mtOf (S T : List (List Int)) (p : Nat) : List (List Int) := if p % 2 = 1 then S else T
theorem keep_mem {α : Type} {p : α → Bool} {l : List α} {x : α} (h : x ∈ keep p l) : x ∈ l ∧ p x = false := by
  unfold keep at h
  have := List.mem_filter.1 h
  exact ⟨this.1, by simpa using this.2⟩
theorem keep_two {α : Type} (p q : α → Bool) (l : List α) (h : ∀ x, q x = !p x) : (keep p l).length + (keep q l).length = l.length := by
  unfold keep
  induction l with
  | nil => rfl
  | cons x l ih =>
    rw [List.filter_cons, List.filter_cons, h x]
    cases p x <;> simp <;> omega
theorem mtP_not (a b : Int) (L : List (List Int)) (x : List Int) : mtP a b L false x = !mtP a b L true x := by
  unfold mtP
  cases L.any (mtB a b x) <;> rfl
theorem mt_part {S T : List (List Int)} {a b : Int} {ds : List Dk} (h : decks ds = [keep (mtP a b T true) S, keep (mtP a b S true) T, keep (mtP a b T false) S, keep (mtP a b S false) T]) (hn : ds.length = 4) {p : Nat} (hp : p < ds.length) :
    ∀ x ∈ cards ds[p].hs, (x ∈ S ∨ x ∈ T) ∧ (mtOf S T p).any (mtB a b x) = decide (p < 2) := by
  intro x hx
  have e := decks_at ds p (by rw [decks_length]; exact hp)
  rw [← e] at hx
  have hm : ∀ (f : Bool) (M : List (List Int)), mtP a b M f x = false → M.any (mtB a b x) = f := by
    intro f M h
    unfold mtP at h
    generalize M.any (mtB a b x) = r at h ⊢
    cases r <;> cases f <;> first | rfl | (simp at h)
  rcases (show p = 0 ∨ p = 1 ∨ p = 2 ∨ p = 3 by omega) with rfl | rfl | rfl | rfl <;> simp only [h, List.getElem_cons_zero, List.getElem_cons_succ] at hx <;> have h2 := keep_mem hx
  · exact ⟨.inl h2.1, hm true T h2.2⟩
  · exact ⟨.inr h2.1, hm true S h2.2⟩
  · exact ⟨.inl h2.1, hm false T h2.2⟩
  · exact ⟨.inr h2.1, hm false S h2.2⟩
theorem mt_lens {S T : List (List Int)} {a b : Int} {ds : List Dk} (h : decks ds = [keep (mtP a b T true) S, keep (mtP a b S true) T, keep (mtP a b T false) S, keep (mtP a b S false) T]) (hn : ds.length = 4) :
    (ds[0]'(by omega)).hs.length + (ds[2]'(by omega)).hs.length = S.length ∧ (ds[1]'(by omega)).hs.length + (ds[3]'(by omega)).hs.length = T.length := by
  have e0 := decks_at ds 0 (by rw [decks_length]; omega)
  have e1 := decks_at ds 1 (by rw [decks_length]; omega)
  have e2 := decks_at ds 2 (by rw [decks_length]; omega)
  have e3 := decks_at ds 3 (by rw [decks_length]; omega)
  simp only [h, List.getElem_cons_zero, List.getElem_cons_succ] at e0 e1 e2 e3
  rw [← cards_length, ← cards_length (ds[2]'(by omega)).hs, ← cards_length (ds[1]'(by omega)).hs, ← cards_length (ds[3]'(by omega)).hs, ← e0, ← e1, ← e2, ← e3]
  exact ⟨keep_two _ _ _ (mtP_not a b T), keep_two _ _ _ (mtP_not a b S)⟩
theorem mt_sub {S T : List (List Int)} {a b : Int} {ds : List Dk} (h : decks ds = [keep (mtP a b T true) S, keep (mtP a b S true) T, keep (mtP a b T false) S, keep (mtP a b S false) T]) (hn : ds.length = 4) {p : Nat} (hp : p < ds.length) : ds[p].hs.length ≤ S.length + T.length := by
  have := mt_lens h hn
  rcases (show p = 0 ∨ p = 1 ∨ p = 2 ∨ p = 3 by omega) with rfl | rfl | rfl | rfl <;> omega
theorem mtB_of {a b : Int} {x y : List Int} {z : Int} (hz : z = cmpR (part x a b) (part y a b)) (hl : (part x a b).length = (part y a b).length) : mtB a b x y = (z == 0) := by
  unfold mtB
  subst hz
  have h1 : ∀ {u v : List Int}, u.length = v.length → (cmpR u v = 0 ↔ u.map rankM = v.map rankM) := fun h => cmpN_zero (by simp [h])
  by_cases e : cmpR (part x a b) (part y a b) = 0
  · rw [decide_eq_true ((h1 hl.symm).2 ((h1 hl).1 e).symm), e]
    rfl
  · rw [decide_eq_false (fun k => e ((h1 hl).2 ((h1 hl.symm).1 k).symm))]
    exact (beq_eq_false_iff_ne.2 e).symm
theorem any_snoc {os : List (List Int)} {p : List Int → Bool} {k : Nat} (h : k < os.length) : (os.take (k + 1)).any p = ((os.take k).any p || p os[k]) := by
  rw [List.take_succ_eq_append_getElem h, List.any_append]
  simp
theorem spValidDeck_yes (D : Option Addr) (c : Nat) (hs : List Hd) (w : World) (h : deckOk (cards hs) = true) (ha : RdD w w.heap.size D hs) (hl : hs.length + tot hs ≤ 1048576) :
    Calls Try.prog 38 #[.slice D hs.length c] w fun e w' => e = .returned (.bool true) ∧ Below w.heap.size w w' := by
  have H := Lib.hid h
  clear h
  go_enter Try.func38, Try.ntmps38
  go_wp2_with fail
  refine (l02Deck_any D c hs _ ha hl).mono ?_
  rw [H.out]
  rintro e w1 ⟨rfl, hb1⟩
  go_wp2
  go_ret
  exact ⟨rfl, hb1⟩

/-! ### the walk -/
/-- Behind k cards of the other deck. -/
def FmaR (os : List (List Int)) (a b : Int) (x : List Int) (wq wr : World) (f q : Value) : Prop := ∃ k : Nat, k ≤ os.length ∧ q = .int .i64 k ∧ f = .bool ((os.take k).any (mtB a b x)) ∧ Below wq.heap.size wq wr

set_option maxRecDepth 100000 in
set_option maxHeartbeats 16000000 in
theorem lawMatched_any (A : Option Addr) (n c : Nat) (bs0 : List UInt8) (w : World) (ha : Rd w w.heap.size 1 A n (byts bs0)) :
    Calls Try.prog 7 #[.slice A n c] w fun e w' => e = .returned (.bool true) ∧ Below w.heap.size w w' := by
  by_cases hn : 3000 < n
  · go_enter Try.func7, Try.ntmps7
    go_wp2_with fail
    refine (a2Long_yes A none n c 0 0 _ (.inl hn)).mono ?_; rintro e w1 ⟨rfl, rfl⟩
    go_wp2
    go_ret
    exact ⟨rfl, b0 _⟩
  · go_enter Try.func7, Try.ntmps7
    go_wp2_with fail
    refine (a2Long_no A none n c 0 0 _ hn (by omega)).mono ?_; rintro e w1 ⟨rfl, rfl⟩
    go_wp2_with fail
    refine (A2Two_any A n c bs0 _ ha (by omega)).mono ?_
    rintro e w1 ⟨D, cd, gs, E, ce, ks, i, j, rfl, hg7, hk7, hgd, hkd, hij, hj2, hod, hoe, hb1⟩
    have HGD := Lib.hid hgd
    have HKD := Lib.hid hkd
    have hgL : (cards gs).length ≤ 40 := by rw [cards_length]; omega
    have hkL : (cards ks).length ≤ 40 := by rw [cards_length]; omega
    have HCG := Lib.hid (good_code2 hgd (by omega) (by omega) hgL hij hj2)
    have HCK := Lib.hid (good_code2 hkd (by omega) (by omega) hkL hij hj2)
    have HTG := Lib.hid (good_tot hgd (by omega) (by omega))
    have HTK := Lib.hid (good_tot hkd (by omega) (by omega))
    have TB := ba (b0 w1) (.cells #[.int .i64 (i : Int), .int .i64 (j : Int)] 27)
    have HT2 := Lib.hid (bs hb1 TB)
    have HOD2 := Lib.hid (hod.bs TB)
    have HOE2 := Lib.hid (hoe.bs TB)
    have kf0 := (show (w1.alloc (.cells #[.int .i64 (i : Int), .int .i64 (j : Int)] 27)).cell? ⟨w1.heap.size, 0, none⟩ = some (.int .i64 (i : Int)) from cell_new rfl rfl)
    have kf1 := (show (w1.alloc (.cells #[.int .i64 (i : Int), .int .i64 (j : Int)] 27)).cell? ⟨w1.heap.size, 1, none⟩ = some (.int .i64 (j : Int)) from cell_new rfl rfl)
    clear hgd hkd hb1 TB hod hoe
    go_wp2_with fail
    refine (spSortedBy_any D cd gs (cards gs) (i : Int) (j : Int) _ HOD2.out.rd rfl (by have := HTG.out; omega) HOD2.out.cap.1).mono ?_
    rw [HCG.out, sbRes_0 HCG.out]
    rintro e w3 ⟨XA, cx, xs, rfl, hx, hox, hb3⟩
    have HX := Lib.hid hx
    have HXL := Lib.hid (show xs.length = gs.length by rw [← cards_length xs, hx, sortedL_length, cards_length])
    have hxl : xs.length ≤ 7 := by have := HXL.out; omega
    have HGX := Lib.hid (show GoodD 2 (cards xs) by rw [hx]; exact good_srt HGD.out)
    have HTX := Lib.hid (good_tot HGX.out (by omega) (by omega))
    have HOX3 := Lib.hid hox
    have HOE3 := Lib.hid (HOE2.out.bs hb3)
    have HT3 := Lib.hid (bs HT2.out hb3)
    replace kf0 := cell_later hb3 kf0
    replace kf1 := cell_later hb3 kf1
    clear hx hox hb3
    go_wp2_with fail
    refine (spSortedBy_any E ce ks (cards ks) (i : Int) (j : Int) _ HOE3.out.rd rfl (by have := HTK.out; omega) HOE3.out.cap.1).mono ?_
    rw [HCK.out, sbRes_0 HCK.out]
    rintro e w4 ⟨YA, cy, ys, rfl, hy, hoy, hb4⟩
    have HY := Lib.hid hy
    have HYL := Lib.hid (show ys.length = ks.length by rw [← cards_length ys, hy, sortedL_length, cards_length])
    have hyl : ys.length ≤ 7 := by have := HYL.out; omega
    have HGY := Lib.hid (show GoodD 2 (cards ys) by rw [hy]; exact good_srt HKD.out)
    have HTY := Lib.hid (good_tot HGY.out (by omega) (by omega))
    have HOY4 := Lib.hid hoy
    have HOX4 := Lib.hid (HOX3.out.bs hb4)
    have HT4 := Lib.hid (bs HT3.out hb4)
    replace kf0 := cell_later hb4 kf0
    replace kf1 := cell_later hb4 kf1
    clear hy hoy hb4
    have HCX := Lib.hid (show colC [cards xs, cards ys] true [] (i : Int) (j : Int) = 0 from good_two HGX.out HGY.out (by omega) (by omega) (by rw [cards_length]; omega) (by rw [cards_length]; omega) hij hj2)
    have HMC := Lib.hid (show mtC (cards xs) (cards ys) (i : Int) (j : Int) = 0 from mtC_0 HCX.out (by rw [HX.out]; exact good_steps HGD.out (by omega) (by omega) hgL hij hj2) (by rw [HY.out]; exact good_steps HKD.out (by omega) (by omega) hkL hij hj2))
    go_wp2_with fail
    refine (MatchDecks_any XA cx xs (cards xs) YA cy ys (cards ys) (i : Int) (j : Int) _ HOX4.out.rd rfl (by have := HTX.out; omega) HOX4.out.cap.1 HOY4.out.rd rfl (by have := HTY.out; omega) HOY4.out.cap.1).mono ?_
    rw [HMC.out, mtR_0 HMC.out]
    rintro e w5 ⟨F, cf, ds, rfl, hds, hof, hb5⟩
    have HDS := Lib.hid hds
    have hdl : ds.length = 4 := by rw [← decks_length ds, hds]; rfl
    have HL4 := Lib.hid (mt_lens hds hdl)
    have HOF := Lib.hid hof
    have HOX := Lib.hid (HOX4.out.bs hb5)
    have HOY := Lib.hid (HOY4.out.bs hb5)
    have HT5 := Lib.hid (bs HT4.out hb5)
    have HKF0 := Lib.hid (cell_later hb5 kf0)
    have HKF1 := Lib.hid (cell_later hb5 kf1)
    clear hds hof hb5 kf0 kf1
    have rF := HOF.out.rd
    obtain ⟨bF, oF, hF, _, hcF⟩ := rF.at_ (show 0 < ds.length by omega)
    have d0 := hcF 0 (by omega)
    have d1 := hcF 1 (by omega)
    have d2 := hcF 2 (by omega)
    have d3 := hcF 3 (by omega)
    rw [Nat.add_zero] at d0
    obtain ⟨n0, hn0⟩ : ∃ n0, n0 = (ds[0]'(by omega)).hs.length := ⟨_, rfl⟩
    obtain ⟨n1, hn1⟩ : ∃ n1, n1 = (ds[1]'(by omega)).hs.length := ⟨_, rfl⟩
    obtain ⟨n2, hn2⟩ : ∃ n2, n2 = (ds[2]'(by omega)).hs.length := ⟨_, rfl⟩
    obtain ⟨n3, hn3⟩ : ∃ n3, n3 = (ds[3]'(by omega)).hs.length := ⟨_, rfl⟩
    have hl := HL4.out
    rw [cards_length, cards_length, ← hn0, ← hn1, ← hn2, ← hn3] at hl
    rw [← hn0] at d0
    rw [← hn1] at d1
    rw [← hn2] at d2
    rw [← hn3] at d3
    have e4 : ((ds.length : Int) != 4) = false := bne_f (by omega)
    have g0 : (0 : Int) < (ds.length : Int) := by omega
    have g1 : (1 : Int) < (ds.length : Int) := by omega
    have g2 : (2 : Int) < (ds.length : Int) := by omega
    have g3 : (3 : Int) < (ds.length : Int) := by omega
    have z1 : IntKind.i64.wrap ((n0 : Int) + (n2 : Int)) = (xs.length : Int) := by rw [IntKind.wrap_i64]; omega
    have z2 : IntKind.i64.wrap ((n1 : Int) + (n3 : Int)) = (ys.length : Int) := by rw [IntKind.wrap_i64]; omega
    have z3 : ((xs.length : Int) != (xs.length : Int)) = false := bne_f rfl
    have z4 : ((ys.length : Int) != (ys.length : Int)) = false := bne_f rfl
    clear hn0 hn1 hn2 hn3 hl hcF rF
    have HFF := Lib.hid hF
    subst hF
    go_wp2
    go_region
    clear d0 d1 d2 d3 g0 g1 g2 g3 z1 z2 z3 z4 e4
    go_wp2
    go_loopw [12, 13, 14, 15, 16, 17, 18] (fun x _ _ _ _ _ _ wr => ∃ p : Nat, p ≤ 4 ∧ x = .int .i64 p ∧ Below w5.heap.size w5 wr) (fun x _ _ _ _ _ _ _ => 4 - (intOf x).toNat)
    case atStart => exact ⟨0, by omega, rfl, (b0 w5).drew⟩
    case round =>
      obtain ⟨wo, rfl⟩ : ∃ wo : World, wo = wr := ⟨_, rfl⟩
      obtain ⟨p, hp, rfl, hbw⟩ := hrel
      by_cases hp4 : p < 4
      · have i1 : (p : Int) < 4 := by omega
        have hpd : p < ds.length := by omega
        have HPT := Lib.hid (mt_part HDS.out hdl hpd)
        have HPL := Lib.hid (show ds[p].hs.length ≤ 14 by have := mt_sub HDS.out hdl hpd; rw [cards_length, cards_length] at this; omega)
        have HGP := Lib.hid (show GoodD 2 (cards ds[p].hs) from fun x hx => by
          rcases (HPT.out x hx).1 with h | h
          · exact HGX.out x h
          · exact HGY.out x h)
        have HPO := Lib.hid (good_deck HGP.out (by omega) (by omega) (by rw [cards_length]; have := HPL.out; omega)).1
        have HPB := Lib.hid (good_tot HGP.out (by omega) (by have := HPL.out; omega))
        have hpl := HPL.out
        have i2 : (p : Int) < (ds.length : Int) := by omega
        have rFo := HOF.out.rd.up hbw
        obtain ⟨b1, o1, hF1, _, hcF⟩ := rFo.at_ hpd
        have d1 := hcF p hpd
        injection hF1 with f1
        injection f1 with f1 f2
        subst f1
        subst f2
        have rP := rFo.deck_at hpd
        have HBW := Lib.hid hbw
        clear hcF rFo hbw
        go_wp2_with fail
        refine (spValidDeck_yes ds[p].a ds[p].c ds[p].hs _ HPO.out rP (by have := HPB.out; omega)).mono ?_
        rintro e wq ⟨rfl, hbq⟩
        have HBQ := Lib.hid (show Below w5.heap.size w5 wq from HBW.out.trans (hbq.mono HBW.out.size))
        have D1 := Lib.hid (cell_later hbq d1)
        have RP := Lib.hid (rP.up hbq)
        clear d1 rP hbq
        have zt : Int.tmod (p : Int) 2 = ((p % 2 : Nat) : Int) := (Int.ofNat_tmod p 2).symm
        have zw : IntKind.i64.wrap ((p % 2 : Nat) : Int) = ((p % 2 : Nat) : Int) := by rw [IntKind.wrap_i64]; omega
        have z2 : ¬ (2 : Int) = 0 := by omega
        by_cases hpp : p % 2 = 1
        · have HMO := Lib.hid (show mtOf (cards xs) (cards ys) p = cards xs by unfold mtOf; rw [if_pos hpp])
          have zq : (((p % 2 : Nat) : Int) == 1) = true := beq_t (by omega)
          go_wp2
          go_loopw [14, 15, 16, 17, 18] (fun x _ _ _ _ wr => ∃ q : Nat, q ≤ ds[p].hs.length ∧ x = .int .i64 q ∧ Below wq.heap.size wq wr) (fun x _ _ _ _ _ => ds[p].hs.length - (intOf x).toNat)
          case atStart => exact ⟨0, Nat.zero_le _, rfl, b0 _⟩
          case round =>
            obtain ⟨wp, rfl⟩ : ∃ wp : World, wp = wr := ⟨_, rfl⟩
            obtain ⟨q, hq, rfl, hbp⟩ := hrel
            have d1 := cell_later hbp D1.out
            by_cases hqd : q < ds[p].hs.length
            · have i3 : (q : Int) < (ds[p].hs.length : Int) := by omega
              obtain ⟨x, hx⟩ : ∃ x, x = ds[p].hs[q].xs := ⟨_, rfl⟩
              have hxm : x ∈ cards ds[p].hs := by rw [hx]; exact List.mem_map.2 ⟨ds[p].hs[q], List.getElem_mem hqd, rfl⟩
              have HXE := Lib.hid hx
              have HXG := Lib.hid (HGP.out x hxm)
              have HXA := Lib.hid (show (cards xs).any (mtB (i : Int) (j : Int) x) = decide (p < 2) by rw [← HMO.out]; exact (HPT.out x hxm).2)
              have HBP := Lib.hid hbp
              clear hx hxm hbp
              go_wp2
              go_loopw [15, 16, 17, 18] (fun f k _ _ wr => FmaR (cards xs) (i : Int) (j : Int) x wp wr f k) (fun _ k _ _ _ => xs.length - (intOf k).toNat)
              case atStart => exact ⟨0, Nat.zero_le _, rfl, rfl, b0 _⟩
              case round =>
                obtain ⟨ws, rfl⟩ : ∃ ws : World, ws = wr := ⟨_, rfl⟩
                obtain ⟨k, hk, rfl, rfl, hbs⟩ := hrel
                rw [cards_length] at hk
                obtain ⟨r, hr⟩ : ∃ r, r = ((cards xs).take k).any (mtB (i : Int) (j : Int) x) := ⟨_, rfl⟩
                rw [← hr]
                have HR := Lib.hid hr
                clear hr
                by_cases hko : k < xs.length
                · have i4 : (k : Int) < (xs.length : Int) := by omega
                  obtain ⟨z, hz⟩ : ∃ z, z = cmpR (part x (i : Int) (j : Int)) (part xs[k].xs (i : Int) (j : Int)) := ⟨_, rfl⟩
                  have HYG := Lib.hid (HGX.out xs[k].xs (List.mem_map.2 ⟨xs[k], List.getElem_mem hko, rfl⟩))
                  have HZM := Lib.hid (mtB_of hz (by rw [part_len hij (by have := HXG.out.1; omega), part_len hij (by have := HYG.out.1; omega)]))
                  have HZ := Lib.hid hz
                  have HNX := Lib.hid (show ((cards xs).take (k + 1)).any (mtB (i : Int) (j : Int) x) = (r || (z == 0)) by
                    rw [any_snoc (by rw [cards_length]; exact hko), HR.out, ← HZM.out]
                    simp [cards])
                  have hbs2 := HBP.out.trans (hbs.mono HBP.out.size)
                  have rO := HOX.out.rd.up (HBQ.out.trans (hbs2.mono HBQ.out.size))
                  obtain ⟨b2, o2, hO, _, hcO⟩ := rO.at_ hko
                  have d2 := hcO k hko
                  have rc2 := rO.card_at hko
                  have hca2 := rO.cap_at hko
                  have rP := RP.out.up hbs2
                  obtain ⟨b3, o3, hP, _, hcP⟩ := rP.at_ hqd
                  have d3 := hcP q hqd
                  have rc3 := rP.card_at hqd
                  have hca3 := rP.cap_at hqd
                  rw [← HXE.out] at d3 rc3 hca3
                  have d4 := cell_later hbs2 D1.out
                  rw [hP] at d4
                  have d5 := cell_later (HBQ.out.trans (hbs2.mono HBQ.out.size)) HKF0.out
                  have d6 := cell_later (HBQ.out.trans (hbs2.mono HBQ.out.size)) HKF1.out
                  subst hO
                  have l2 := fun y : Later ws => lat_cell y d2
                  have l3 := fun y : Later ws => lat_cell y d3
                  have l4 := fun y : Later ws => lat_cell y d4
                  have l5 := fun y : Later ws => lat_cell y d5
                  have l6 := fun y : Later ws => lat_cell y d6
                  have HBS := Lib.hid hbs
                  clear hz d2 d3 d4 d5 d6 hcO hcP rO rP hbs2 hbs
                  go_wp2_with fail
                  refine wp_region_later (by kernel_rfl) (by kernel_rfl) ?_
                  repeat (go_big_quiet_step ((go_at_call 19; exact lat_call (spCompareFields_good _ _ _ _ _ _ i j 2 z _ HZ.out HXG.out HYG.out (by omega) (by omega) hij hj2 (lat_rd _ rc3) (lat_rd _ rc2) hca3 hca2))))
                  refine wpQuiet_nil ?_
                  intro wt hbt
                  have HBT := Lib.hid (bs HBS.out hbt)
                  clear l2 l3 l4 l5 l6 hbt rc2 rc3
                  obtain ⟨y, hy⟩ : ∃ y, y = (z == 0) := ⟨_, rfl⟩
                  have HYY := Lib.hid hy
                  rw [← hy] at HNX
                  cases hr2 : r
                  · rw [hr2] at HNX
                    have zy : (z == 0) = y := hy.symm
                    clear hy hr2
                    go_wp2
                    go_roundw
                    case rel =>
                      have P : FmaR (cards xs) (i : Int) (j : Int) x wp wt (.bool y) (.int .i64 ((k : Int) + 1)) := ⟨k + 1, by rw [cards_length]; omega, by go_num, by rw [HNX.out]; rfl, HBT.out⟩
                      first | exact P | exact ⟨_, P, rfl⟩ | exact ⟨_, _, P, rfl, rfl⟩ | exact ⟨_, _, _, P, rfl, rfl, rfl⟩ | exact ⟨_, _, _, _, P, rfl, rfl, rfl, rfl⟩ | exact ⟨_, _, _, _, _, P, rfl, rfl, rfl, rfl, rfl⟩ | exact ⟨_, _, _, _, _, _, P, rfl, rfl, rfl, rfl, rfl, rfl⟩ | exact ⟨_, _, _, _, _, _, _, P, rfl, rfl, rfl, rfl, rfl, rfl, rfl⟩ | exact ⟨_, _, _, _, _, _, _, _, P, rfl, rfl, rfl, rfl, rfl, rfl, rfl, rfl⟩
                    case measure => (simp [intOf]; try omega)
                  · rw [hr2] at HNX
                    clear hy hr2
                    go_wp2
                    go_roundw
                    case rel =>
                      have P : FmaR (cards xs) (i : Int) (j : Int) x wp wt (.bool true) (.int .i64 ((k : Int) + 1)) := ⟨k + 1, by rw [cards_length]; omega, by go_num, by rw [HNX.out]; rfl, HBT.out⟩
                      first | exact P | exact ⟨_, P, rfl⟩ | exact ⟨_, _, P, rfl, rfl⟩ | exact ⟨_, _, _, P, rfl, rfl, rfl⟩ | exact ⟨_, _, _, _, P, rfl, rfl, rfl, rfl⟩ | exact ⟨_, _, _, _, _, P, rfl, rfl, rfl, rfl, rfl⟩ | exact ⟨_, _, _, _, _, _, P, rfl, rfl, rfl, rfl, rfl, rfl⟩ | exact ⟨_, _, _, _, _, _, _, P, rfl, rfl, rfl, rfl, rfl, rfl, rfl⟩ | exact ⟨_, _, _, _, _, _, _, _, P, rfl, rfl, rfl, rfl, rfl, rfl, rfl, rfl⟩
                    case measure => (simp [intOf]; try omega)
                · obtain rfl : k = xs.length := by omega
                  have HRR := Lib.hid (show r = decide (p < 2) by rw [HR.out, ← cards_length, List.take_length, HXA.out])
                  have HBN := Lib.hid (bs HBP.out hbs)
                  clear hbs
                  by_cases hp2 : p < 2
                  · have hr : r = true := by rw [HRR.out]; exact decide_eq_true hp2
                    have i5 : (p : Int) < 2 := by omega
                    subst hr
                    go_wp2
                    go_roundw
                    case rel => exact ⟨q + 1, by omega, by go_num, HBN.out⟩
                    case measure => (simp [intOf]; try omega)
                  · have hr : r = false := by rw [HRR.out]; exact decide_eq_false hp2
                    have i5 : ¬ (p : Int) < 2 := by omega
                    subst hr
                    go_wp2
                    go_roundw
                    case rel => exact ⟨q + 1, by omega, by go_num, HBN.out⟩
                    case measure => (simp [intOf]; try omega)
            · obtain rfl : q = ds[p].hs.length := by omega
              have HBN := Lib.hid (HBQ.out.trans (hbp.mono HBQ.out.size))
              clear hbp
              go_wp2
              go_roundw
              case rel => exact ⟨p + 1, by omega, by go_num, HBN.out⟩
              case measure => (simp [intOf]; try omega)
        · have HMO := Lib.hid (show mtOf (cards xs) (cards ys) p = cards ys by unfold mtOf; rw [if_neg hpp])
          have zq : (((p % 2 : Nat) : Int) == 1) = false := beq_f (by omega)
          go_wp2
          go_loopw [14, 15, 16, 17, 18] (fun x _ _ _ _ wr => ∃ q : Nat, q ≤ ds[p].hs.length ∧ x = .int .i64 q ∧ Below wq.heap.size wq wr) (fun x _ _ _ _ _ => ds[p].hs.length - (intOf x).toNat)
          case atStart => exact ⟨0, Nat.zero_le _, rfl, b0 _⟩
          case round =>
            obtain ⟨wp, rfl⟩ : ∃ wp : World, wp = wr := ⟨_, rfl⟩
            obtain ⟨q, hq, rfl, hbp⟩ := hrel
            have d1 := cell_later hbp D1.out
            by_cases hqd : q < ds[p].hs.length
            · have i3 : (q : Int) < (ds[p].hs.length : Int) := by omega
              obtain ⟨x, hx⟩ : ∃ x, x = ds[p].hs[q].xs := ⟨_, rfl⟩
              have hxm : x ∈ cards ds[p].hs := by rw [hx]; exact List.mem_map.2 ⟨ds[p].hs[q], List.getElem_mem hqd, rfl⟩
              have HXE := Lib.hid hx
              have HXG := Lib.hid (HGP.out x hxm)
              have HXA := Lib.hid (show (cards ys).any (mtB (i : Int) (j : Int) x) = decide (p < 2) by rw [← HMO.out]; exact (HPT.out x hxm).2)
              have HBP := Lib.hid hbp
              clear hx hxm hbp
              go_wp2
              go_loopw [15, 16, 17, 18] (fun f k _ _ wr => FmaR (cards ys) (i : Int) (j : Int) x wp wr f k) (fun _ k _ _ _ => ys.length - (intOf k).toNat)
              case atStart => exact ⟨0, Nat.zero_le _, rfl, rfl, b0 _⟩
              case round =>
                obtain ⟨ws, rfl⟩ : ∃ ws : World, ws = wr := ⟨_, rfl⟩
                obtain ⟨k, hk, rfl, rfl, hbs⟩ := hrel
                rw [cards_length] at hk
                obtain ⟨r, hr⟩ : ∃ r, r = ((cards ys).take k).any (mtB (i : Int) (j : Int) x) := ⟨_, rfl⟩
                rw [← hr]
                have HR := Lib.hid hr
                clear hr
                by_cases hko : k < ys.length
                · have i4 : (k : Int) < (ys.length : Int) := by omega
                  obtain ⟨z, hz⟩ : ∃ z, z = cmpR (part x (i : Int) (j : Int)) (part ys[k].xs (i : Int) (j : Int)) := ⟨_, rfl⟩
                  have HYG := Lib.hid (HGY.out ys[k].xs (List.mem_map.2 ⟨ys[k], List.getElem_mem hko, rfl⟩))
                  have HZM := Lib.hid (mtB_of hz (by rw [part_len hij (by have := HXG.out.1; omega), part_len hij (by have := HYG.out.1; omega)]))
                  have HZ := Lib.hid hz
                  have HNX := Lib.hid (show ((cards ys).take (k + 1)).any (mtB (i : Int) (j : Int) x) = (r || (z == 0)) by
                    rw [any_snoc (by rw [cards_length]; exact hko), HR.out, ← HZM.out]
                    simp [cards])
                  have hbs2 := HBP.out.trans (hbs.mono HBP.out.size)
                  have rO := HOY.out.rd.up (HBQ.out.trans (hbs2.mono HBQ.out.size))
                  obtain ⟨b2, o2, hO, _, hcO⟩ := rO.at_ hko
                  have d2 := hcO k hko
                  have rc2 := rO.card_at hko
                  have hca2 := rO.cap_at hko
                  have rP := RP.out.up hbs2
                  obtain ⟨b3, o3, hP, _, hcP⟩ := rP.at_ hqd
                  have d3 := hcP q hqd
                  have rc3 := rP.card_at hqd
                  have hca3 := rP.cap_at hqd
                  rw [← HXE.out] at d3 rc3 hca3
                  have d4 := cell_later hbs2 D1.out
                  rw [hP] at d4
                  have d5 := cell_later (HBQ.out.trans (hbs2.mono HBQ.out.size)) HKF0.out
                  have d6 := cell_later (HBQ.out.trans (hbs2.mono HBQ.out.size)) HKF1.out
                  subst hO
                  have l2 := fun y : Later ws => lat_cell y d2
                  have l3 := fun y : Later ws => lat_cell y d3
                  have l4 := fun y : Later ws => lat_cell y d4
                  have l5 := fun y : Later ws => lat_cell y d5
                  have l6 := fun y : Later ws => lat_cell y d6
                  have HBS := Lib.hid hbs
                  clear hz d2 d3 d4 d5 d6 hcO hcP rO rP hbs2 hbs
                  go_wp2_with fail
                  refine wp_region_later (by kernel_rfl) (by kernel_rfl) ?_
                  repeat (go_big_quiet_step ((go_at_call 19; exact lat_call (spCompareFields_good _ _ _ _ _ _ i j 2 z _ HZ.out HXG.out HYG.out (by omega) (by omega) hij hj2 (lat_rd _ rc3) (lat_rd _ rc2) hca3 hca2))))
                  refine wpQuiet_nil ?_
                  intro wt hbt
                  have HBT := Lib.hid (bs HBS.out hbt)
                  clear l2 l3 l4 l5 l6 hbt rc2 rc3
                  obtain ⟨y, hy⟩ : ∃ y, y = (z == 0) := ⟨_, rfl⟩
                  have HYY := Lib.hid hy
                  rw [← hy] at HNX
                  cases hr2 : r
                  · rw [hr2] at HNX
                    have zy : (z == 0) = y := hy.symm
                    clear hy hr2
                    go_wp2
                    go_roundw
                    case rel =>
                      have P : FmaR (cards ys) (i : Int) (j : Int) x wp wt (.bool y) (.int .i64 ((k : Int) + 1)) := ⟨k + 1, by rw [cards_length]; omega, by go_num, by rw [HNX.out]; rfl, HBT.out⟩
                      first | exact P | exact ⟨_, P, rfl⟩ | exact ⟨_, _, P, rfl, rfl⟩ | exact ⟨_, _, _, P, rfl, rfl, rfl⟩ | exact ⟨_, _, _, _, P, rfl, rfl, rfl, rfl⟩ | exact ⟨_, _, _, _, _, P, rfl, rfl, rfl, rfl, rfl⟩ | exact ⟨_, _, _, _, _, _, P, rfl, rfl, rfl, rfl, rfl, rfl⟩ | exact ⟨_, _, _, _, _, _, _, P, rfl, rfl, rfl, rfl, rfl, rfl, rfl⟩ | exact ⟨_, _, _, _, _, _, _, _, P, rfl, rfl, rfl, rfl, rfl, rfl, rfl, rfl⟩
                    case measure => (simp [intOf]; try omega)
                  · rw [hr2] at HNX
                    clear hy hr2
                    go_wp2
                    go_roundw
                    case rel =>
                      have P : FmaR (cards ys) (i : Int) (j : Int) x wp wt (.bool true) (.int .i64 ((k : Int) + 1)) := ⟨k + 1, by rw [cards_length]; omega, by go_num, by rw [HNX.out]; rfl, HBT.out⟩
                      first | exact P | exact ⟨_, P, rfl⟩ | exact ⟨_, _, P, rfl, rfl⟩ | exact ⟨_, _, _, P, rfl, rfl, rfl⟩ | exact ⟨_, _, _, _, P, rfl, rfl, rfl, rfl⟩ | exact ⟨_, _, _, _, _, P, rfl, rfl, rfl, rfl, rfl⟩ | exact ⟨_, _, _, _, _, _, P, rfl, rfl, rfl, rfl, rfl, rfl⟩ | exact ⟨_, _, _, _, _, _, _, P, rfl, rfl, rfl, rfl, rfl, rfl, rfl⟩ | exact ⟨_, _, _, _, _, _, _, _, P, rfl, rfl, rfl, rfl, rfl, rfl, rfl, rfl⟩
                    case measure => (simp [intOf]; try omega)
                · obtain rfl : k = ys.length := by omega
                  have HRR := Lib.hid (show r = decide (p < 2) by rw [HR.out, ← cards_length, List.take_length, HXA.out])
                  have HBN := Lib.hid (bs HBP.out hbs)
                  clear hbs
                  by_cases hp2 : p < 2
                  · have hr : r = true := by rw [HRR.out]; exact decide_eq_true hp2
                    have i5 : (p : Int) < 2 := by omega
                    subst hr
                    go_wp2
                    go_roundw
                    case rel => exact ⟨q + 1, by omega, by go_num, HBN.out⟩
                    case measure => (simp [intOf]; try omega)
                  · have hr : r = false := by rw [HRR.out]; exact decide_eq_false hp2
                    have i5 : ¬ (p : Int) < 2 := by omega
                    subst hr
                    go_wp2
                    go_roundw
                    case rel => exact ⟨q + 1, by omega, by go_num, HBN.out⟩
                    case measure => (simp [intOf]; try omega)
            · obtain rfl : q = ds[p].hs.length := by omega
              have HBN := Lib.hid (HBQ.out.trans (hbp.mono HBQ.out.size))
              clear hbp
              go_wp2
              go_roundw
              case rel => exact ⟨p + 1, by omega, by go_num, HBN.out⟩
              case measure => (simp [intOf]; try omega)
      · obtain rfl : p = 4 := by omega
        go_wp2
        go_ret
        exact ⟨rfl, bs HT5.out hbw⟩

set_option maxRecDepth 100000 in
theorem lawMatched_lifted (os : Os) (started : os.Started) (H : Type) (enc : TypeId × Value → H) :
    ReturnsInHanded {} Try.checked os 7 .any (Rows.fnMatchedSpec.pre6 enc Try.prog Try.f7 Rows.fnMatchedRow.domain false) (Rows.fnMatchedSpec.post enc Try.prog Try.f7 false true false false) := by
  refine returnsInHanded_of_change (C := Try.checked) lawOwn started (by kernel_rfl) Try.func7
    (ChangeSpec.witness6 (enc := enc) (C := Try.checked) false ⟨#[], #[.slice none 0 0], []⟩ 8 (by kernel_rfl) (by kernel_rfl) (by kernel_rfl) (by kernel_rfl)) ?_
  intro W base args ds gs before hval0 hW _ _
  have hval : ∀ (j : Nat) t v, Try.f7.params[j]? = some t → args[j]? = some v → Value.okWide Try.prog W .any base t v := hval0
  clear hval0
  have hW0 : DataW.Whole enc Try.prog Try.f7.params.toList Rows.fnMatchedSpec.vars false W args.toList ds gs before := hW
  clear hW
  have hW := hW0
  obtain ⟨p, q, hA, hV, _, _, _⟩ := hW
  rw [Try.params7] at hA hval
  obtain ⟨v0, vs0, d0, ds0, p0, q0, hargs, rfl, rfl, h0, hA0⟩ := trodAll_cons hA
  obtain ⟨rfl, rfl, rfl⟩ := trodAll_nil hA0
  have hargs2 : args = #[v0] := by cases args; simp_all
  clear hargs
  subst hargs2
  obtain ⟨A0, c0, bs0, rfl, hc0, hm0, r0⟩ := in_bytes Try.underlying22 Try.underlying5 (by kernel_rfl) (hval 0 22 v0 rfl rfl) h0
  have hcall := lawMatched_any A0 _ c0 bs0 W r0
  refine hcall.mono fun e W' ⟨he, hb⟩ => ⟨_, he, ?_⟩
  exact post_law (f := Try.f7) (s := Rows.fnMatchedSpec) hW0 rfl (tb := 4) rfl Try.underlying4 rfl lawLaid (by kernel_rfl) hb

theorem fnMatched_holds : Rows.FnMatchedSaid :=
  OpenClaim.holds_of_wide 7 Try.f7 rfl rfl rfl rfl rfl rfl rfl ⟨rfl, rfl, rfl, rfl, rfl⟩ rfl rfl rfl rfl rfl (by kernel_rfl) Try.func7 (by kernel_rfl)
    (of_decide_eq_true (by kernel_rfl)) (by unfold Func.isWrapper; first | (rw [if_pos (by decide +kernel)]; kernel_rfl) | (rw [if_neg (by decide +kernel)]; exact ⟨rfl, rfl⟩))
    (fun os started H enc _ => lawMatched_lifted os started H enc)
#print axioms fnMatched_holds
end Go.Proofs.Ytdppmlchabogaaa
