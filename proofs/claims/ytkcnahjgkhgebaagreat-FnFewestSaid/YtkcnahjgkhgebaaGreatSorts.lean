/- l08Sorts; IsPlanFor in the reference. -/
import Derived.Test.YtkcnahjgkhgebaaGreatIsPlan
import Derived.Test.YtkcnahjgkhgebaaGreatSame
namespace Go.Proofs.YtkcnahjgkhgebaaGreat
open Go.RowKit

/-- The card at the k-th place of a list of places. -/
theorem pick_len (L : List (List Int)) (zs : List Int) : (pickL L zs).length = zs.length := by unfold pickL; simp
theorem pick_take (L : List (List Int)) (zs : List Int) (k : Nat) : (pickL L zs).take k = pickL L (zs.take k) := by unfold pickL; rw [List.map_take]

set_option maxRecDepth 20000 in
set_option maxHeartbeats 4000000 in
theorem l08Sorts_any (D : Option Addr) (c : Nat) (hs : List Hd) (G0 : Option Addr) (cg0 : Nat) (zs : List Int) (A : Option Addr) (cp : Nat) (ps : List (Int × Int)) (w : World) (ha : RdD w w.heap.size D hs) (hok : deckOk (cards hs) = true) (hl : hs.length + tot hs ≤ 1048576)
    (hz : Rd w w.heap.size 1 G0 zs.length (ints zs)) (hzn : zs.length = hs.length) (hzm : ∀ z ∈ zs, ∃ k : Nat, z = k ∧ k < (cards hs).length) (hb : Rd w w.heap.size 2 A ps.length (prs ps)) (hlp : ps.length ≤ 1048576) (hps : passesOk (deckW (cards hs) : Int) ps = true) :
    Calls Tryz.prog 47 #[.slice D hs.length c, .slice G0 zs.length cg0, .slice A ps.length cp] w fun e w' => e = .returned (.bool (decide (runL (cards hs) ps = pickL (cards hs) zs))) ∧ Below w.heap.size w w' := by
  have hh40 : hs.length ≤ 40 := by have := deckOk_len hok; rw [cards_length] at this; exact this
  have HBND := Lib.hid (fun gs (h : cards gs = runL (cards hs) ps) => runL_bound hok hps h)
  have HRLEN := Lib.hid (show (runL (cards hs) ps).length = zs.length by
    have hp2 := hps
    simp only [passesOk, Bool.and_eq_true] at hp2
    have hp := runL_perm (cards hs) (fun p hp => List.all_eq_true.1 hp2.2 p hp)
    rw [hp.length_eq, cards_length, hzn])
  have HMEM := Lib.hid hzm
  have HCALL := Lib.hid (fun W x y => l07All_any D c hs A cp ps W x hok hl y hlp hps)
  clear hzm hok hps
  go_enter Tryz.func47, Tryz.ntmps47
  go_wp2_with fail
  refine (HCALL.out _ ha hb).mono ?_; rintro e w1 ⟨E, ce, gs, rfl, hcc, hoo, hb1⟩
  have HCC := Lib.hid hcc
  have HGL := Lib.hid (show gs.length = zs.length by rw [← HRLEN.out, ← hcc, cards_length])
  have hbd := HBND.out gs hcc
  have ha1 := ha.up hb1
  have hz1 := hz.up hb1
  have ho1 := hoo.rd
  clear hcc hoo ha hz hb
  go_wp2
  go_loopw [8] (fun i wr => ∃ k : Nat, k ≤ gs.length ∧ i = .int .i64 k ∧ Hid ((cards gs).take k = (pickL (cards hs) zs).take k) ∧ Below w1.heap.size w1 wr) (fun i _ => gs.length - (intOf i).toNat)
  case atStart => exact ⟨0, Nat.zero_le _, rfl, Lib.hid rfl, b0 _⟩
  case round =>
    obtain ⟨wo, rfl⟩ : ∃ wo : World, wo = wr := ⟨_, rfl⟩
    obtain ⟨k, hk, rfl, HT, hbw⟩ := hrel
    by_cases hlt : k < gs.length
    · have hltz : k < zs.length := by rw [← HGL.out]; exact hlt
      obtain ⟨m, hm, hml, hgd⟩ := pick_at HMEM.out hltz
      have hra := ha1.up hbw
      have hrg := ho1.up hbw
      have rc := hra.card_at hml
      have rg := hrg.card_at hlt
      have hlc : hs[m].xs.length ≤ 1048576 := by have := tot_at hs m hml; omega
      have hlg : gs[k].xs.length ≤ 1048576 := by have := tot_at gs k hlt; omega
      obtain ⟨bz, oz, hG0, _, hcz⟩ := (hz1.up hbw).at_ hltz
      have dz := hcz k _ (ints_get _ k hltz)
      rw [hm] at dz
      obtain ⟨b1, o1, hD, _, hcell⟩ := hra.at_ hml
      have kc := hcell m hml
      obtain ⟨b2, o2, hE, _, hcell2⟩ := hrg.at_ hlt
      have kg := hcell2 k hlt
      have i1 : (k : Int) < (gs.length : Int) := by omega
      have i2 : (k : Int) < (zs.length : Int) := by omega
      have i3 : (m : Int) < (hs.length : Int) := by omega
      have HPK := Lib.hid (show (pickL (cards hs) zs).take (k + 1) = (pickL (cards hs) zs).take k ++ [hs[m].xs] by rw [pick_take, pick_take, pickL_succ _ _ _ hltz, hgd])
      have HGK := Lib.hid (show (cards gs).take (k + 1) = (cards gs).take k ++ [gs[k].xs] by
        rw [List.take_succ_eq_append_getElem (show k < (cards gs).length by rw [cards_length]; exact hlt), cards_at])
      have l1 := fun x : Later wo => lat_cell x dz
      have l2 := fun x : Later wo => lat_cell x kc
      have l3 := fun x : Later wo => lat_cell x kg
      subst hG0
      subst hD
      subst hE
      clear hm hgd hcz hcell hcell2 hra hrg dz kc kg
      by_cases hq : gs[k].xs = hs[m].xs
      · have HCON := Lib.hid (show ∀ W : World, Rd W W.heap.size 1 gs[k].a gs[k].xs.length (ints gs[k].xs) → Rd W W.heap.size 1 hs[m].a hs[m].xs.length (ints hs[m].xs) → Calls Tryz.prog 83 #[.slice gs[k].a gs[k].xs.length gs[k].c, .slice hs[m].a hs[m].xs.length hs[m].c] W fun e w' => e = .returned (.bool true) ∧ Below W.heap.size W w' from fun W x y => by
          have := l00Same_any gs[k].a hs[m].a gs[k].c hs[m].c gs[k].xs hs[m].xs W x y hlg hlc
          rwa [decide_eq_true hq] at this)
        have HN := Lib.hid (show (cards gs).take (k + 1) = (pickL (cards hs) zs).take (k + 1) by rw [HPK.out, HGK.out, HT.out, hq])
        clear hq
        go_wp2_with fail
        refine wp_region_later (by kernel_rfl) (by kernel_rfl) ?_
        repeat (go_big_quiet_step ((go_at_call 83; exact lat_call (HCON.out _ (lat_rd _ rg) (lat_rd _ rc)))))
        refine wpQuiet_nil ?_
        intro w2 hb2
        have T2 := Lib.hid (bs hbw hb2)
        clear l1 l2 l3 rc rg hb2 hbw
        go_wp2
        go_roundw
        case rel => exact ⟨k + 1, by omega, by go_num, HN, T2.out⟩
        case measure => (simp [intOf]; try omega)
      · have HCON := Lib.hid (show ∀ W : World, Rd W W.heap.size 1 gs[k].a gs[k].xs.length (ints gs[k].xs) → Rd W W.heap.size 1 hs[m].a hs[m].xs.length (ints hs[m].xs) → Calls Tryz.prog 83 #[.slice gs[k].a gs[k].xs.length gs[k].c, .slice hs[m].a hs[m].xs.length hs[m].c] W fun e w' => e = .returned (.bool false) ∧ Below W.heap.size W w' from fun W x y => by
          have := l00Same_any gs[k].a hs[m].a gs[k].c hs[m].c gs[k].xs hs[m].xs W x y hlg hlc
          rwa [decide_eq_false hq] at this)
        have HN := Lib.hid (show decide (runL (cards hs) ps = pickL (cards hs) zs) = false by
          rw [decide_eq_false_iff_not]
          intro h
          apply hq
          have h1 := HGK.out
          rw [HCC.out, h, HPK.out] at h1
          have h2 := List.append_inj_right' h1 rfl
          simpa using h2.symm)
        clear hq
        go_wp2_with fail
        refine wp_region_later (by kernel_rfl) (by kernel_rfl) ?_
        repeat (go_big_quiet_step ((go_at_call 83; exact lat_call (HCON.out _ (lat_rd _ rg) (lat_rd _ rc)))))
        refine wpQuiet_nil ?_
        intro w2 hb2
        have T2 := Lib.hid (bs hb1 (bs hbw hb2))
        clear l1 l2 l3 rc rg hb2 hbw
        go_wp2
        go_ret
        exact ⟨ret_bool HN.out.symm, T2.out⟩
    · obtain rfl : k = gs.length := by omega
      have HN := Lib.hid (show decide (runL (cards hs) ps = pickL (cards hs) zs) = true by
        have h1 := HT.out
        rw [List.take_of_length_le (by rw [cards_length]; exact Nat.le_refl _), List.take_of_length_le (by rw [pick_len, HGL.out]; exact Nat.le_refl _), HCC.out] at h1
        exact decide_eq_true h1)
      go_wp2
      go_ret
      exact ⟨ret_bool HN.out.symm, bs hb1 hbw⟩

theorem ordL_pick (L : List (List Int)) (a b : Int) : pickL L (ordL L a b) = sortedL L a b := rfl

set_option maxRecDepth 20000 in
set_option maxHeartbeats 4000000 in
theorem spIsPlanFor_any (D : Option Addr) (c : Nat) (hs : List Hd) (L : List (List Int)) (a b : Int) (A : Option Addr) (cp : Nat) (ps : List (Int × Int)) (w : World) (ha : RdD w w.heap.size D hs) (hL : cards hs = L) (hl : hs.length + tot hs ≤ 1048576) (_hc : hs.length ≤ c) (hb : Rd w w.heap.size 2 A ps.length (prs ps)) (hlp : ps.length ≤ 1048576) :
    Calls Tryz.prog 19 #[.slice D hs.length c, .agg #[.int .i64 a, .int .i64 b], .slice A ps.length cp] w fun e w' => e = .returned (.tuple #[.bool (ipR L ps a b), .int .i64 (ipC L ps a b)]) ∧ Below w.heap.size w w' := by
  subst hL
  have T0 : Below w.heap.size w (w.alloc (.cells #[.int .i64 a, .int .i64 b] 31)) := ba (b0 w) _
  have ra := ha.a1 (.cells #[.int .i64 a, .int .i64 b] 31)
  have rp := hb.a1 (.cells #[.int .i64 a, .int .i64 b] 31)
  have p0 : (w.alloc (.cells #[.int .i64 a, .int .i64 b] 31)).cell? ⟨w.heap.size, 0, none⟩ = some (.int .i64 a) := cell_new rfl rfl
  have p1 : (w.alloc (.cells #[.int .i64 a, .int .i64 b] 31)).cell? ⟨w.heap.size, 1, none⟩ = some (.int .i64 b) := cell_new rfl rfl
  rcases Bool.eq_false_or_eq_true (deckOk (cards hs)) with h1 | h1
  · have hw := deckOk_wid h1
    have H1 := Lib.hid h1
    have HVD := Lib.hid (show ∀ W : World, RdD W W.heap.size D hs → Calls Tryz.prog 44 #[.slice D hs.length c] W fun e w' => e = .returned (.bool true) ∧ Below W.heap.size W w' from fun W x => by
      have := l02Deck_any D c hs W x hl
      rwa [h1] at this)
    clear h1
    go_enter Tryz.func19, Tryz.ntmps19
    go_wp2_with fail
    refine (HVD.out _ ra).mono ?_; rintro e w1 ⟨rfl, hb1⟩
    have ra1 := ra.up hb1
    have q0 := cell_later hb1 p0
    have q1 := cell_later hb1 p1
    have T1 := bs T0 hb1
    have rp1 := rp.up hb1
    clear hb1 p0 p1 ra rp ha hb
    go_wp2_with fail
    refine (l07Width_any _ _ hs _ ra1 hl).mono ?_; rintro e w2 ⟨rfl, rfl⟩
    go_wp2
    go_loopw [9] (fun i wr => ∃ k : Nat, k ≤ ps.length ∧ i = .int .i64 k ∧ Hid ((ps.take k).any (fun p => !passOk (deckW (cards hs) : Int) p) = false) ∧ Below w1.heap.size w1 wr) (fun i _ => ps.length - (intOf i).toNat)
    case atStart => exact ⟨0, Nat.zero_le _, rfl, Lib.hid rfl, b0 _⟩
    case round =>
      obtain ⟨wo, rfl⟩ : ∃ wo : World, wo = wr := ⟨_, rfl⟩
      obtain ⟨k, hk, rfl, HNO, hbw⟩ := hrel
      have r2 := rp1.up hbw
      by_cases hlt : k < ps.length
      · obtain ⟨b3, off, rfl, hbb, hc⟩ := r2.at_ hlt
        have d1 := hc _ _ (prs_fst ps k hlt)
        have d2 := hc _ _ (prs_snd ps k hlt)
        rw [← Nat.add_assoc] at d2
        have i1 : (k : Int) < (ps.length : Int) := by omega
        clear hc
        rcases Bool.eq_false_or_eq_true (passOk (deckW (cards hs) : Int) (ps[k].1, ps[k].2)) with hp | hp
        · have HP := Lib.hid (any_take_succ (p := fun p => !passOk (deckW (cards hs) : Int) p) hlt HNO.out (by show (!passOk (deckW (cards hs) : Int) (ps[k].1, ps[k].2)) = false; rw [hp]; rfl))
          have HCON := Lib.hid (show ∀ W : World, Calls Tryz.prog 46 #[.agg #[.int .i64 ps[k].1, .int .i64 ps[k].2], .int .i64 (deckW (cards hs) : Int)] W fun e w' => e = .returned (.bool true) ∧ Below W.heap.size W w' from fun W => by
            have := l07Pass_any ps[k].1 ps[k].2 (deckW (cards hs) : Int) W (by omega) (by omega)
            rwa [hp] at this)
          clear hp
          go_wp2_with fail
          refine (HCON.out _).mono ?_; rintro e w3 ⟨rfl, hb3⟩
          have T3 := Lib.hid (bs hbw hb3)
          clear d1 d2 hb3 r2
          go_wp2
          go_roundw
          case rel => exact ⟨k + 1, by omega, by go_num, HP, T3.out⟩
          case measure => (simp [intOf]; try omega)
        · have HP := Lib.hid (show passesOk (deckW (cards hs) : Int) ps = false by
            have : ps.all (passOk (deckW (cards hs) : Int)) = false := List.all_eq_false.2 ⟨ps[k], List.getElem_mem hlt, by show ¬ passOk (deckW (cards hs) : Int) (ps[k].1, ps[k].2) = true; rw [hp]; simp⟩
            simp [passesOk, this])
          have HC := Lib.hid (ipC_p (a := a) (b := b) H1.out HP.out)
          have HCON := Lib.hid (show ∀ W : World, Calls Tryz.prog 46 #[.agg #[.int .i64 ps[k].1, .int .i64 ps[k].2], .int .i64 (deckW (cards hs) : Int)] W fun e w' => e = .returned (.bool false) ∧ Below W.heap.size W w' from fun W => by
            have := l07Pass_any ps[k].1 ps[k].2 (deckW (cards hs) : Int) W (by omega) (by omega)
            rwa [hp] at this)
          clear hp
          go_wp2_with fail
          refine (HCON.out _).mono ?_; rintro e w3 ⟨rfl, hb3⟩
          have T3 := Lib.hid (bs T1 (bs hbw hb3))
          clear d1 d2 hb3 r2
          go_wp2
          go_ret2
          exact ⟨ret_bi HC.out.2.symm HC.out.1.symm, T3.out⟩
      · have HP := Lib.hid (show passesOk (deckW (cards hs) : Int) ps = decide (ps.length ≤ 40) by
          have h1 := any_take_all hlt HNO.out
          rw [any_not_all] at h1
          simp only [Bool.not_eq_false'] at h1
          simp [passesOk, h1])
        by_cases h40 : ps.length ≤ 40
        · have h2 : passesOk (deckW (cards hs) : Int) ps = true := by rw [HP.out]; simpa using h40
          have H2 := Lib.hid h2
          have HCK := Lib.hid (l07Keys_any D c hs a b)
          have ra2 := ra1.up hbw
          have q2 := cell_later hbw q0
          have q3 := cell_later hbw q1
          have T2 := bs T1 hbw
          by_cases hz : codeK (cards hs) a b = 0
          · obtain ⟨_, h4, h3⟩ := codeK_zero hz
            obtain ⟨i, j, rfl, rfl, hij, hjw⟩ := fieldOk_nat h4
            have HC := Lib.hid (ipC_0 H1.out h2 h4 h3)
            have HZ := Lib.hid hz
            have H3 := Lib.hid h3
            have HK := Lib.hid (keysRes_0 hz)
            have HKL := Lib.hid (show (keysRes (cards hs) (i : Int) (j : Int)).length = (cards hs).length by rw [HK.out, keysL_length])
            obtain ⟨n, hn⟩ : ∃ n, n = (keysRes (cards hs) (i : Int) (j : Int)).length := ⟨_, rfl⟩
            have HN := Lib.hid (show (cards hs).length = n by rw [hn, HKL.out])
            have HN3 := Lib.hid (show hs.length = n by rw [← HN.out, cards_length])
            have HMEM := Lib.hid (fun z (hz : z ∈ ordL (cards hs) (i : Int) (j : Int)) => ordL_mem hz)
            have HCO := Lib.hid (fun K ck w => l07Places_any K ck n (cards hs) i j w HN.out H1.out hij hjw H3.out)
            have HR := Lib.hid (show ipR (cards hs) ps (i : Int) (j : Int) = decide (runL (cards hs) ps = pickL (cards hs) (ordL (cards hs) (i : Int) (j : Int))) by rw [HC.out.2]; rfl)
            obtain ⟨zs, hzs⟩ : ∃ zs, zs = ordL (cards hs) (i : Int) (j : Int) := ⟨_, rfl⟩
            have HZL := Lib.hid (show zs.length = n by rw [hzs, ordL_length, HN.out])
            have HN2 := Lib.hid hn
            rw [← hzs] at HMEM HCO HR
            clear h2 h3 h4 hz hzs hn
            go_wp2_with fail
            refine (HCK.out _ ra2 hl).mono ?_; rintro e w4 ⟨K, ck, rfl, hown0, hb4⟩
            have e0 : codeK (cards hs) (i : Int) (j : Int) = 0 := HZ.out
            have hrd := (Rd.own hown0)
            rw [← HN2.out, HK.out] at hrd
            have HRD := Lib.hid hrd
            rw [← HN2.out]
            have T4 := bs T2 hb4
            have ra4 := ra2.up hb4
            have rp4 := r2.up hb4
            clear hb4 ra2 r2 hown0 hrd q2 q3 T2
            go_wp2_with fail
            refine (HCO.out _ _ _ HRD.out).mono ?_; rintro e w5 ⟨G0, cg0, rfl, hownZ, hb5⟩
            have rz := Rd.own hownZ
            rw [← HZL.out] at rz ⊢
            have ra5 := ra4.up hb5
            have rp5 := rp4.up hb5
            have T5 := bs T4 hb5
            clear e0 hb5 hownZ ra4 rp4 T4
            go_wp2_with fail
            refine (l08Sorts_any _ _ hs _ _ zs _ _ ps _ ra5 H1.out hl rz (by rw [HZL.out, HN3.out]) HMEM.out rp5 hlp H2.out).mono ?_; rintro e w6 ⟨rfl, hb6⟩
            have T6 := Lib.hid (bs T5 hb6)
            clear hb6 ra5 rp5 T5 rz
            go_wp2
            go_ret2
            exact ⟨ret_bi HR.out.symm HC.out.1.symm, T6.out⟩
          · have HC := Lib.hid (show ipC (cards hs) ps a b = codeK (cards hs) a b ∧ ipR (cards hs) ps a b = false from ⟨ipC_k H1.out h2, ipR_no (by rw [ipC_k H1.out h2]; exact hz)⟩)
            clear h2
            go_wp2_with fail
            refine (HCK.out _ ra2 hl).mono ?_; rintro e w4 ⟨K, ck, rfl, hown0, hb4⟩
            have T4 := Lib.hid (bs T2 hb4)
            clear hb4 hown0
            go_wp2
            go_ret2
            exact ⟨ret_bi HC.out.2.symm HC.out.1.symm, T4.out⟩
        · have HC := Lib.hid (ipC_p (a := a) (b := b) H1.out (by rw [HP.out]; simpa using h40))
          have h41 : ¬ (ps.length : Int) ≤ 40 := by omega
          have h42 : (40 : Int) < (ps.length : Int) := by omega
          go_wp2
          go_ret2
          exact ⟨ret_bi HC.out.2.symm HC.out.1.symm, bs T1 hbw⟩
  · have HC := Lib.hid (ipC_1 (ps := ps) (a := a) (b := b) h1)
    have HVD := Lib.hid (show ∀ W : World, RdD W W.heap.size D hs → Calls Tryz.prog 44 #[.slice D hs.length c] W fun e w' => e = .returned (.bool false) ∧ Below W.heap.size W w' from fun W x => by
      have := l02Deck_any D c hs W x hl
      rwa [h1] at this)
    clear h1
    go_enter Tryz.func19, Tryz.ntmps19
    go_wp2_with fail
    refine (HVD.out _ ra).mono ?_; rintro e w1 ⟨rfl, hb1⟩
    go_wp2
    go_ret2
    exact ⟨ret_bi HC.out.2.symm HC.out.1.symm, bs T0 hb1⟩
end Go.Proofs.YtkcnahjgkhgebaaGreat
