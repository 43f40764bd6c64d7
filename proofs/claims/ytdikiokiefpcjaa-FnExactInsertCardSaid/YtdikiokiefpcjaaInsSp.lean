/- InsertCard; in the reference. -/
import Derived.Test.YtdikiokiefpcjaaMergeSp2
namespace Go.Proofs.Ytdikiokiefpcjaa
open Go.RowKit

/-- A deck of one card, its header in a block of its own. -/
theorem rdd_card {w : World} {g : Nat} {A : Option Addr} {c : Nat} {xs : List Int} (hc : w.cell? ⟨g, 0, none⟩ = some (.slice A xs.length c)) (r : Rd w w.heap.size 1 A xs.length (ints xs)) (hcap : xs.length ≤ c) : RdD w w.heap.size (some ⟨g, 0, none⟩) [⟨A, c, xs⟩] := by
  refine ⟨⟨rfl, fun _ => ⟨g, 0, rfl, World.block_lt_of_cell? _ _ hc, fun j u hu => ?_⟩⟩, ?_, ?_⟩
  · match j, hu with
    | 0, hu =>
      have e : (heads [(⟨A, c, xs⟩ : Hd)])[0]? = some (.slice A xs.length c) := rfl
      rw [e] at hu
      injection hu with hu
      subst hu
      exact hc
    | j + 1, hu => exact absurd hu (by simp [heads])
  · intro h hh
    rw [List.mem_singleton] at hh
    subst hh
    exact r
  · intro h hh
    rw [List.mem_singleton] at hh
    subst hh
    exact hcap

set_option maxRecDepth 20000 in
set_option maxHeartbeats 8000000 in
theorem spInsertCard_any (D : Option Addr) (c : Nat) (hs : List Hd) (L : List (List Int)) (A : Option Addr) (cc : Nat) (xs : List Int) (a b : Int) (w : World) (hd : RdD w w.heap.size D hs) (hL : cards hs = L) (hl : hs.length + tot hs ≤ 1048576) (_hc : hs.length ≤ c) (he : Rd w w.heap.size 1 A xs.length (ints xs)) (hl' : xs.length ≤ 1048576) (hc' : xs.length ≤ cc) :
    Calls Try.prog 16 #[.slice D hs.length c, .agg #[.slice A xs.length cc], .agg #[.int .i64 a, .int .i64 b]] w fun e w' => ∃ F cf gs, e = .returned (.tuple #[.slice F gs.length cf, .int .i64 (mgeC L [xs] a b)]) ∧ cards gs = mgeR L [xs] a b ∧ ObD w' w.heap.size w'.heap.size 34 2 F cf gs ∧ Below w.heap.size w w' := by
  subst hL
  have HCA := Lib.hid (cards_length hs)
  have HTK : 1 + tot [(⟨A, cc, xs⟩ : Hd)] ≤ 1048577 := by simp [tot]; omega
  obtain ⟨W, hW⟩ : ∃ W, W = ((w.alloc (.cells #[.slice A xs.length cc] 34)).alloc (.cells #[.int .i64 a, .int .i64 b] 36)).alloc (.cells #[.slice A xs.length cc] 34) := ⟨_, rfl⟩
  have T0 : Below w.heap.size w W := by rw [hW]; exact ba (ba (ba (b0 w) _) _) _
  have rd : RdD W W.heap.size D hs := by rw [hW]; exact ((hd.a1 _).a1 _).a1 _
  have rx : Rd W W.heap.size 1 A xs.length (ints xs) := by rw [hW]; exact ((he.a1 _).a1 _).a1 _
  have kc : W.cell? ⟨w.heap.size, 0, none⟩ = some (.slice A xs.length cc) := by rw [hW]; exact cell_alloc (cell_alloc (cell_new rfl rfl) _) _
  have k1 : W.cell? ⟨w.heap.size + 1, 0, none⟩ = some (.int .i64 a) := by rw [hW]; exact cell_alloc (cell_new (by simp) rfl) _
  have k2 : W.cell? ⟨w.heap.size + 1, 1, none⟩ = some (.int .i64 b) := by rw [hW]; exact cell_alloc (cell_new (by simp) rfl) _
  have re : RdD W W.heap.size (some ⟨w.heap.size + 1 + 1, 0, none⟩) [⟨A, cc, xs⟩] := rdd_card (by rw [hW]; exact cell_new (by simp) rfl) rx hc'
  have HW := Lib.hid hW
  clear hW hd he
  by_cases hz : colC [cards hs, [xs]] true [] a b = 0
  · obtain ⟨o1, o2, f1, f2, v1, v2⟩ := colC_two hz
    obtain ⟨i, j, rfl, rfl, hij, hj1⟩ := fieldOk_nat f1
    have hj2 : j ≤ deckW [xs] := by have := fieldOk_true f2; omega
    have HZ := Lib.hid hz
    have HO1 := Lib.hid o1
    have HO2 := Lib.hid o2
    have HV1 := Lib.hid v1
    have HV2 := Lib.hid v2
    have HJ2 := Lib.hid hj2
    have HK1 := Lib.hid (twoK_0 (cards hs) hz)
    have HK2 := Lib.hid (twoK_0 [xs] hz)
    have HN1 := Lib.hid (show (twoK (cards hs) [xs] (cards hs) (i : Int) (j : Int)).length = hs.length by rw [HK1.out, keysL_length, cards_length])
    have HN2 := Lib.hid (show (twoK (cards hs) [xs] [xs] (i : Int) (j : Int)).length = 1 by rw [HK2.out, keysL_length]; rfl)
    have HTWO : Hid (Calls Try.prog 117 #[.slice D hs.length c, .slice (some ⟨w.heap.size + 1 + 1, 0, none⟩) 1 1, .agg #[.int .i64 (i : Int), .int .i64 (j : Int)]] W _) := Lib.hid (l09Two_any D c hs (some ⟨w.heap.size + 1 + 1, 0, none⟩) 1 [⟨A, cc, xs⟩] (i : Int) (j : Int) W rd re hl HTK)
    have S2 : (stepsL [xs] (i : Int) (j : Int) [xs].length).length = 0 := by
      rw [show [xs].length = 1 from rfl, stepsL_one]
      rfl
    clear hz f1 f2 v1 v2 hj2
    rcases (show (¬ 0 < hs.length ∧ clashB (cards hs) [xs] = false) ∨ (0 < hs.length ∧ deckW (cards hs) = xs.length ∧ clashB (cards hs) [xs] = false) ∨ (0 < hs.length ∧ deckW (cards hs) ≠ xs.length ∧ clashB (cards hs) [xs] = true) from by
        have e1 : deckW [xs] = xs.length := rfl
        unfold clashB
        rw [cards_length, e1]
        by_cases y1 : 0 < hs.length
        · right
          by_cases y3 : deckW (cards hs) = xs.length
          · exact .inl ⟨y1, y3, by simp [y3]⟩
          · exact .inr ⟨y1, y3, by simp [y1, y3]⟩
        · exact .inl ⟨y1, by simp [y1]⟩) with ⟨y1, hcl⟩ | ⟨y1, y3, hcl⟩ | ⟨y1, y3, hcl⟩
    · have i1 : ¬ (0 : Int) < (hs.length : Int) := by omega
      have HCLF := Lib.hid hcl
      clear hcl
      by_cases s1 : (stepsL (cards hs) (i : Int) (j : Int) (cards hs).length).length = 0
      · have z1 := steps_ge s1
        rw [HCA.out] at z1
        by_cases h40 : 40 < hs.length + 1
        · exact absurd h40 (by omega)
        · have HC := Lib.hid (mgeC_0 HZ.out HCLF.out ⟨s1, S2⟩ (by rw [HCA.out]; exact h40))
          have HR := Lib.hid (mgeR_0 HC.out)
          have HS := Lib.hid (And.intro s1 S2)
          have HI8 := Lib.hid (show ¬ (40 : Int) ≤ (hs.length : Int) by omega)
          clear s1 S2 h40 o1 o2
          go_enter Try.func16, Try.ntmps16
          go_wp2_with fail
          rw [← HW.out]
          refine HTWO.out.mono ?_; rintro e w1 ⟨K1, c1, K2, c2, rfl, hk1, hk2, hb1⟩
          have e0 : colC [cards hs, [xs]] true [] (i : Int) (j : Int) = 0 := HZ.out
          have r1 := Rd.own hk1
          have r2 := Rd.own hk2
          rw [show twoK (cards hs) (cards [⟨A, cc, xs⟩]) (cards hs) (i : Int) (j : Int) = twoK (cards hs) [xs] (cards hs) (i : Int) (j : Int) from rfl, HN1.out, HK1.out] at r1
          rw [show twoK (cards hs) (cards [⟨A, cc, xs⟩]) (cards [⟨A, cc, xs⟩]) (i : Int) (j : Int) = twoK (cards hs) [xs] [xs] (i : Int) (j : Int) from rfl, HN2.out, HK2.out] at r2
          rw [show twoK (cards hs) (cards [⟨A, cc, xs⟩]) (cards hs) (i : Int) (j : Int) = twoK (cards hs) [xs] (cards hs) (i : Int) (j : Int) from rfl, show twoK (cards hs) (cards [⟨A, cc, xs⟩]) (cards [⟨A, cc, xs⟩]) (i : Int) (j : Int) = twoK (cards hs) [xs] [xs] (i : Int) (j : Int) from rfl, show colC [cards hs, cards [⟨A, cc, xs⟩]] true [] (i : Int) (j : Int) = colC [cards hs, [xs]] true [] (i : Int) (j : Int) from rfl, HN1.out, HN2.out]
          have rd1 := rd.up hb1
          have rx1 := rx.up hb1
          have kc1 := cell_later hb1 kc
          have T1 := bs T0 hb1
          clear hk1 hk2 hb1 rd re rx kc k1 k2
          have lc := fun x : Later w1 => lat_cell x kc1
          go_wp2_with fail
          refine wp_region_later (by kernel_rfl) (by kernel_rfl) ?_
          repeat (go_big_quiet_step (fail))
          refine wpQuiet_nil ?_
          intro u1 hv1
          replace r1 := r1.up hv1
          replace r2 := r2.up hv1
          replace rd1 := rd1.up hv1
          replace rx1 := rx1.up hv1
          replace kc1 := cell_later hv1 kc1
          replace T1 := bs T1 hv1
          clear hv1 lc
          go_wp2_with fail
          refine (l07Step_any K1 c1 hs.length (cards hs) i j _ HCA.out HO1.out hij hj1 HV1.out r1).mono ?_; rintro e w2 ⟨rfl, hb2⟩
          have i8 := HI8.out
          have hkc := cell_later hb2 kc1
          have T2 := ba (bs T1 hb2) (.cells #[.slice A xs.length cc] 34)
          have hr1 := (r1.up hb2).a1 (.cells #[.slice A xs.length cc] 34)
          have hr2 := (r2.up hb2).a1 (.cells #[.slice A xs.length cc] 34)
          have hrd := (rd1.up hb2).a1 (.cells #[.slice A xs.length cc] 34)
          have hrx := (rx1.up hb2).a1 (.cells #[.slice A xs.length cc] 34)
          have hre : RdD (w2.alloc (.cells #[.slice A xs.length cc] 34)) (w2.alloc (.cells #[.slice A xs.length cc] 34)).heap.size (some ⟨w2.heap.size, 0, none⟩) [⟨A, cc, xs⟩] := rdd_card (cell_new rfl rfl) hrx hc'
          have HMG : Hid (Calls Try.prog 119 #[.slice _ hs.length c, .slice (some ⟨w2.heap.size, 0, none⟩) 1 1, .slice K1 hs.length c1, .slice K2 1 c2] (w2.alloc (.cells #[.slice A xs.length cc] 34)) _) := Lib.hid (l09Merge_n _ _ c 1 hs [⟨A, cc, xs⟩] K1 K2 hs.length 1 c1 c2 i j _ hrd hre HO1.out HO2.out hij hj1 HJ2.out HV1.out HV2.out rfl rfl hr1 hr2 hl (deckOk_small (ks := [⟨A, cc, xs⟩]) HO2.out) (Nat.le_refl _) HS.out.1 HS.out.2)
          clear r1 r2 rd1 rx1 hb2 T1 e0 hr1 hr2 hrd hrx hre kc1
          go_wp2_with fail
          refine HMG.out.mono ?_; rintro e w4 ⟨G, cg, gs, rfl, hgc, hob, hb4⟩
          have HGC := Lib.hid hgc
          clear hgc
          go_wp2
          go_ret2
          exact ⟨G, cg, gs, ret_dd HC.out.symm, by rw [HGC.out, HR.out]; rfl, hob.mono T2.size (Nat.le_refl _), bs T2 hb4⟩
      · have z1 := steps_ge' s1
        rw [HCA.out] at z1
        have HC := Lib.hid (mgeC_6 HZ.out HCLF.out (fun h => s1 h.1))
        have HR := Lib.hid (mgeR_1 (L := cards hs) (M := [xs]) (a := (i : Int)) (b := (j : Int)) (by rw [HC.out]; decide))
        clear s1 o1 o2
        go_enter Try.func16, Try.ntmps16
        go_wp2_with fail
        rw [← HW.out]
        refine HTWO.out.mono ?_; rintro e w1 ⟨K1, c1, K2, c2, rfl, hk1, hk2, hb1⟩
        have e0 : colC [cards hs, [xs]] true [] (i : Int) (j : Int) = 0 := HZ.out
        have r1 := Rd.own hk1
        have r2 := Rd.own hk2
        rw [show twoK (cards hs) (cards [⟨A, cc, xs⟩]) (cards hs) (i : Int) (j : Int) = twoK (cards hs) [xs] (cards hs) (i : Int) (j : Int) from rfl, HN1.out, HK1.out] at r1
        rw [show twoK (cards hs) (cards [⟨A, cc, xs⟩]) (cards [⟨A, cc, xs⟩]) (i : Int) (j : Int) = twoK (cards hs) [xs] [xs] (i : Int) (j : Int) from rfl, HN2.out, HK2.out] at r2
        rw [show twoK (cards hs) (cards [⟨A, cc, xs⟩]) (cards hs) (i : Int) (j : Int) = twoK (cards hs) [xs] (cards hs) (i : Int) (j : Int) from rfl, show twoK (cards hs) (cards [⟨A, cc, xs⟩]) (cards [⟨A, cc, xs⟩]) (i : Int) (j : Int) = twoK (cards hs) [xs] [xs] (i : Int) (j : Int) from rfl, show colC [cards hs, cards [⟨A, cc, xs⟩]] true [] (i : Int) (j : Int) = colC [cards hs, [xs]] true [] (i : Int) (j : Int) from rfl, HN1.out, HN2.out]
        have rd1 := rd.up hb1
        have rx1 := rx.up hb1
        have kc1 := cell_later hb1 kc
        have T1 := bs T0 hb1
        clear hk1 hk2 hb1 rd re rx kc k1 k2
        have lc := fun x : Later w1 => lat_cell x kc1
        go_wp2_with fail
        refine wp_region_later (by kernel_rfl) (by kernel_rfl) ?_
        repeat (go_big_quiet_step (fail))
        refine wpQuiet_nil ?_
        intro u1 hv1
        replace r1 := r1.up hv1
        replace r2 := r2.up hv1
        replace rd1 := rd1.up hv1
        replace rx1 := rx1.up hv1
        replace kc1 := cell_later hv1 kc1
        replace T1 := bs T1 hv1
        clear hv1 lc
        go_wp2_with fail
        refine (l07Step_any K1 c1 hs.length (cards hs) i j _ HCA.out HO1.out hij hj1 HV1.out r1).mono ?_; rintro e w2 ⟨rfl, hb2⟩
        go_wp2
        go_ret2
        exact ⟨none, 0, [], ret_dd HC.out.symm, HR.out.symm, ObD.nil _ _ _ _ _, bs T1 hb2⟩
    · have i1 : (0 : Int) < (hs.length : Int) := by omega
      have DW := Lib.hid (show hs[0].xs.length = xs.length by rw [← deckW_pos y1]; exact y3)
      have HCLF := Lib.hid hcl
      clear hcl
      by_cases s1 : (stepsL (cards hs) (i : Int) (j : Int) (cards hs).length).length = 0
      · have z1 := steps_ge s1
        rw [HCA.out] at z1
        by_cases h40 : 40 < hs.length + 1
        · have HC := Lib.hid (mgeC_5 HZ.out HCLF.out ⟨s1, S2⟩ (by rw [HCA.out]; exact h40))
          have HR := Lib.hid (mgeR_1 (L := cards hs) (M := [xs]) (a := (i : Int)) (b := (j : Int)) (by rw [HC.out]; decide))
          have HI8 := Lib.hid (show (40 : Int) ≤ (hs.length : Int) by omega)
          clear s1 S2 h40 o1 o2
          go_enter Try.func16, Try.ntmps16
          go_wp2_with fail
          rw [← HW.out]
          refine HTWO.out.mono ?_; rintro e w1 ⟨K1, c1, K2, c2, rfl, hk1, hk2, hb1⟩
          have e0 : colC [cards hs, [xs]] true [] (i : Int) (j : Int) = 0 := HZ.out
          have r1 := Rd.own hk1
          have r2 := Rd.own hk2
          rw [show twoK (cards hs) (cards [⟨A, cc, xs⟩]) (cards hs) (i : Int) (j : Int) = twoK (cards hs) [xs] (cards hs) (i : Int) (j : Int) from rfl, HN1.out, HK1.out] at r1
          rw [show twoK (cards hs) (cards [⟨A, cc, xs⟩]) (cards [⟨A, cc, xs⟩]) (i : Int) (j : Int) = twoK (cards hs) [xs] [xs] (i : Int) (j : Int) from rfl, HN2.out, HK2.out] at r2
          rw [show twoK (cards hs) (cards [⟨A, cc, xs⟩]) (cards hs) (i : Int) (j : Int) = twoK (cards hs) [xs] (cards hs) (i : Int) (j : Int) from rfl, show twoK (cards hs) (cards [⟨A, cc, xs⟩]) (cards [⟨A, cc, xs⟩]) (i : Int) (j : Int) = twoK (cards hs) [xs] [xs] (i : Int) (j : Int) from rfl, show colC [cards hs, cards [⟨A, cc, xs⟩]] true [] (i : Int) (j : Int) = colC [cards hs, [xs]] true [] (i : Int) (j : Int) from rfl, HN1.out, HN2.out]
          have rd1 := rd.up hb1
          have rx1 := rx.up hb1
          have kc1 := cell_later hb1 kc
          have T1 := bs T0 hb1
          clear hk1 hk2 hb1 rd re rx kc k1 k2
          obtain ⟨p1, q1, hD, _, hcA⟩ := rd1.at_ y1
          have d1 := hcA 0 y1
          rw [Nat.add_zero] at d1
          subst hD
          have i3 : ((hs[0].xs.length : Int) != (xs.length : Int)) = false := bne_f (by have := DW.out; omega)
          have l1 := fun x : Later w1 => lat_cell x d1
          clear hcA d1
          have lc := fun x : Later w1 => lat_cell x kc1
          go_wp2_with fail
          refine wp_region_later (by kernel_rfl) (by kernel_rfl) ?_
          repeat (go_big_quiet_step (fail))
          refine wpQuiet_nil ?_
          intro u1 hv1
          replace r1 := r1.up hv1
          replace r2 := r2.up hv1
          replace rd1 := rd1.up hv1
          replace rx1 := rx1.up hv1
          replace kc1 := cell_later hv1 kc1
          replace T1 := bs T1 hv1
          clear hv1 lc
          clear l1 i3
          go_wp2_with fail
          refine (l07Step_any K1 c1 hs.length (cards hs) i j _ HCA.out HO1.out hij hj1 HV1.out r1).mono ?_; rintro e w2 ⟨rfl, hb2⟩
          have i8 := HI8.out
          go_wp2
          go_ret2
          exact ⟨none, 0, [], ret_dd HC.out.symm, HR.out.symm, ObD.nil _ _ _ _ _, bs T1 hb2⟩
        · have HC := Lib.hid (mgeC_0 HZ.out HCLF.out ⟨s1, S2⟩ (by rw [HCA.out]; exact h40))
          have HR := Lib.hid (mgeR_0 HC.out)
          have HS := Lib.hid (And.intro s1 S2)
          have HI8 := Lib.hid (show ¬ (40 : Int) ≤ (hs.length : Int) by omega)
          clear s1 S2 h40 o1 o2
          go_enter Try.func16, Try.ntmps16
          go_wp2_with fail
          rw [← HW.out]
          refine HTWO.out.mono ?_; rintro e w1 ⟨K1, c1, K2, c2, rfl, hk1, hk2, hb1⟩
          have e0 : colC [cards hs, [xs]] true [] (i : Int) (j : Int) = 0 := HZ.out
          have r1 := Rd.own hk1
          have r2 := Rd.own hk2
          rw [show twoK (cards hs) (cards [⟨A, cc, xs⟩]) (cards hs) (i : Int) (j : Int) = twoK (cards hs) [xs] (cards hs) (i : Int) (j : Int) from rfl, HN1.out, HK1.out] at r1
          rw [show twoK (cards hs) (cards [⟨A, cc, xs⟩]) (cards [⟨A, cc, xs⟩]) (i : Int) (j : Int) = twoK (cards hs) [xs] [xs] (i : Int) (j : Int) from rfl, HN2.out, HK2.out] at r2
          rw [show twoK (cards hs) (cards [⟨A, cc, xs⟩]) (cards hs) (i : Int) (j : Int) = twoK (cards hs) [xs] (cards hs) (i : Int) (j : Int) from rfl, show twoK (cards hs) (cards [⟨A, cc, xs⟩]) (cards [⟨A, cc, xs⟩]) (i : Int) (j : Int) = twoK (cards hs) [xs] [xs] (i : Int) (j : Int) from rfl, show colC [cards hs, cards [⟨A, cc, xs⟩]] true [] (i : Int) (j : Int) = colC [cards hs, [xs]] true [] (i : Int) (j : Int) from rfl, HN1.out, HN2.out]
          have rd1 := rd.up hb1
          have rx1 := rx.up hb1
          have kc1 := cell_later hb1 kc
          have T1 := bs T0 hb1
          clear hk1 hk2 hb1 rd re rx kc k1 k2
          obtain ⟨p1, q1, hD, _, hcA⟩ := rd1.at_ y1
          have d1 := hcA 0 y1
          rw [Nat.add_zero] at d1
          subst hD
          have i3 : ((hs[0].xs.length : Int) != (xs.length : Int)) = false := bne_f (by have := DW.out; omega)
          have l1 := fun x : Later w1 => lat_cell x d1
          clear hcA d1
          have lc := fun x : Later w1 => lat_cell x kc1
          go_wp2_with fail
          refine wp_region_later (by kernel_rfl) (by kernel_rfl) ?_
          repeat (go_big_quiet_step (fail))
          refine wpQuiet_nil ?_
          intro u1 hv1
          replace r1 := r1.up hv1
          replace r2 := r2.up hv1
          replace rd1 := rd1.up hv1
          replace rx1 := rx1.up hv1
          replace kc1 := cell_later hv1 kc1
          replace T1 := bs T1 hv1
          clear hv1 lc
          clear l1 i3
          go_wp2_with fail
          refine (l07Step_any K1 c1 hs.length (cards hs) i j _ HCA.out HO1.out hij hj1 HV1.out r1).mono ?_; rintro e w2 ⟨rfl, hb2⟩
          have i8 := HI8.out
          have hkc := cell_later hb2 kc1
          have T2 := ba (bs T1 hb2) (.cells #[.slice A xs.length cc] 34)
          have hr1 := (r1.up hb2).a1 (.cells #[.slice A xs.length cc] 34)
          have hr2 := (r2.up hb2).a1 (.cells #[.slice A xs.length cc] 34)
          have hrd := (rd1.up hb2).a1 (.cells #[.slice A xs.length cc] 34)
          have hrx := (rx1.up hb2).a1 (.cells #[.slice A xs.length cc] 34)
          have hre : RdD (w2.alloc (.cells #[.slice A xs.length cc] 34)) (w2.alloc (.cells #[.slice A xs.length cc] 34)).heap.size (some ⟨w2.heap.size, 0, none⟩) [⟨A, cc, xs⟩] := rdd_card (cell_new rfl rfl) hrx hc'
          have HMG : Hid (Calls Try.prog 119 #[.slice _ hs.length c, .slice (some ⟨w2.heap.size, 0, none⟩) 1 1, .slice K1 hs.length c1, .slice K2 1 c2] (w2.alloc (.cells #[.slice A xs.length cc] 34)) _) := Lib.hid (l09Merge_n _ _ c 1 hs [⟨A, cc, xs⟩] K1 K2 hs.length 1 c1 c2 i j _ hrd hre HO1.out HO2.out hij hj1 HJ2.out HV1.out HV2.out rfl rfl hr1 hr2 hl (deckOk_small (ks := [⟨A, cc, xs⟩]) HO2.out) (Nat.le_refl _) HS.out.1 HS.out.2)
          clear r1 r2 rd1 rx1 hb2 T1 e0 hr1 hr2 hrd hrx hre kc1
          go_wp2_with fail
          refine HMG.out.mono ?_; rintro e w4 ⟨G, cg, gs, rfl, hgc, hob, hb4⟩
          have HGC := Lib.hid hgc
          clear hgc
          go_wp2
          go_ret2
          exact ⟨G, cg, gs, ret_dd HC.out.symm, by rw [HGC.out, HR.out]; rfl, hob.mono T2.size (Nat.le_refl _), bs T2 hb4⟩
      · have z1 := steps_ge' s1
        rw [HCA.out] at z1
        have HC := Lib.hid (mgeC_6 HZ.out HCLF.out (fun h => s1 h.1))
        have HR := Lib.hid (mgeR_1 (L := cards hs) (M := [xs]) (a := (i : Int)) (b := (j : Int)) (by rw [HC.out]; decide))
        clear s1 o1 o2
        go_enter Try.func16, Try.ntmps16
        go_wp2_with fail
        rw [← HW.out]
        refine HTWO.out.mono ?_; rintro e w1 ⟨K1, c1, K2, c2, rfl, hk1, hk2, hb1⟩
        have e0 : colC [cards hs, [xs]] true [] (i : Int) (j : Int) = 0 := HZ.out
        have r1 := Rd.own hk1
        have r2 := Rd.own hk2
        rw [show twoK (cards hs) (cards [⟨A, cc, xs⟩]) (cards hs) (i : Int) (j : Int) = twoK (cards hs) [xs] (cards hs) (i : Int) (j : Int) from rfl, HN1.out, HK1.out] at r1
        rw [show twoK (cards hs) (cards [⟨A, cc, xs⟩]) (cards [⟨A, cc, xs⟩]) (i : Int) (j : Int) = twoK (cards hs) [xs] [xs] (i : Int) (j : Int) from rfl, HN2.out, HK2.out] at r2
        rw [show twoK (cards hs) (cards [⟨A, cc, xs⟩]) (cards hs) (i : Int) (j : Int) = twoK (cards hs) [xs] (cards hs) (i : Int) (j : Int) from rfl, show twoK (cards hs) (cards [⟨A, cc, xs⟩]) (cards [⟨A, cc, xs⟩]) (i : Int) (j : Int) = twoK (cards hs) [xs] [xs] (i : Int) (j : Int) from rfl, show colC [cards hs, cards [⟨A, cc, xs⟩]] true [] (i : Int) (j : Int) = colC [cards hs, [xs]] true [] (i : Int) (j : Int) from rfl, HN1.out, HN2.out]
        have rd1 := rd.up hb1
        have rx1 := rx.up hb1
        have kc1 := cell_later hb1 kc
        have T1 := bs T0 hb1
        clear hk1 hk2 hb1 rd re rx kc k1 k2
        obtain ⟨p1, q1, hD, _, hcA⟩ := rd1.at_ y1
        have d1 := hcA 0 y1
        rw [Nat.add_zero] at d1
        subst hD
        have i3 : ((hs[0].xs.length : Int) != (xs.length : Int)) = false := bne_f (by have := DW.out; omega)
        have l1 := fun x : Later w1 => lat_cell x d1
        clear hcA d1
        have lc := fun x : Later w1 => lat_cell x kc1
        go_wp2_with fail
        refine wp_region_later (by kernel_rfl) (by kernel_rfl) ?_
        repeat (go_big_quiet_step (fail))
        refine wpQuiet_nil ?_
        intro u1 hv1
        replace r1 := r1.up hv1
        replace r2 := r2.up hv1
        replace rd1 := rd1.up hv1
        replace rx1 := rx1.up hv1
        replace kc1 := cell_later hv1 kc1
        replace T1 := bs T1 hv1
        clear hv1 lc
        clear l1 i3
        go_wp2_with fail
        refine (l07Step_any K1 c1 hs.length (cards hs) i j _ HCA.out HO1.out hij hj1 HV1.out r1).mono ?_; rintro e w2 ⟨rfl, hb2⟩
        go_wp2
        go_ret2
        exact ⟨none, 0, [], ret_dd HC.out.symm, HR.out.symm, ObD.nil _ _ _ _ _, bs T1 hb2⟩
    · have i1 : (0 : Int) < (hs.length : Int) := by omega
      have DW := Lib.hid (show ¬ hs[0].xs.length = xs.length by rw [← deckW_pos y1]; exact y3)
      have HC := Lib.hid (mgeC_9 HZ.out hcl)
      have HR := Lib.hid (mgeR_1 (L := cards hs) (M := [xs]) (a := (i : Int)) (b := (j : Int)) (by rw [HC.out]; decide))
      clear hcl o1 o2
      go_enter Try.func16, Try.ntmps16
      go_wp2_with fail
      rw [← HW.out]
      refine HTWO.out.mono ?_; rintro e w1 ⟨K1, c1, K2, c2, rfl, hk1, hk2, hb1⟩
      have e0 : colC [cards hs, [xs]] true [] (i : Int) (j : Int) = 0 := HZ.out
      have r1 := Rd.own hk1
      have r2 := Rd.own hk2
      rw [show twoK (cards hs) (cards [⟨A, cc, xs⟩]) (cards hs) (i : Int) (j : Int) = twoK (cards hs) [xs] (cards hs) (i : Int) (j : Int) from rfl, HN1.out, HK1.out] at r1
      rw [show twoK (cards hs) (cards [⟨A, cc, xs⟩]) (cards [⟨A, cc, xs⟩]) (i : Int) (j : Int) = twoK (cards hs) [xs] [xs] (i : Int) (j : Int) from rfl, HN2.out, HK2.out] at r2
      rw [show twoK (cards hs) (cards [⟨A, cc, xs⟩]) (cards hs) (i : Int) (j : Int) = twoK (cards hs) [xs] (cards hs) (i : Int) (j : Int) from rfl, show twoK (cards hs) (cards [⟨A, cc, xs⟩]) (cards [⟨A, cc, xs⟩]) (i : Int) (j : Int) = twoK (cards hs) [xs] [xs] (i : Int) (j : Int) from rfl, show colC [cards hs, cards [⟨A, cc, xs⟩]] true [] (i : Int) (j : Int) = colC [cards hs, [xs]] true [] (i : Int) (j : Int) from rfl, HN1.out, HN2.out]
      have rd1 := rd.up hb1
      have rx1 := rx.up hb1
      have kc1 := cell_later hb1 kc
      have T1 := bs T0 hb1
      clear hk1 hk2 hb1 rd re rx kc k1 k2
      obtain ⟨p1, q1, hD, _, hcA⟩ := rd1.at_ y1
      have d1 := hcA 0 y1
      rw [Nat.add_zero] at d1
      subst hD
      have i3 : ((hs[0].xs.length : Int) != (xs.length : Int)) = true := bne_t (by have := DW.out; omega)
      have l1 := fun x : Later w1 => lat_cell x d1
      clear hcA d1
      have lc := fun x : Later w1 => lat_cell x kc1
      go_wp2_with fail
      refine wp_region_later (by kernel_rfl) (by kernel_rfl) ?_
      repeat (go_big_quiet_step (fail))
      refine wpQuiet_nil ?_
      intro u1 hv1
      replace r1 := r1.up hv1
      replace r2 := r2.up hv1
      replace rd1 := rd1.up hv1
      replace rx1 := rx1.up hv1
      replace kc1 := cell_later hv1 kc1
      replace T1 := bs T1 hv1
      clear hv1 lc
      go_wp2
      go_ret2
      exact ⟨none, 0, [], ret_dd HC.out.symm, HR.out.symm, ObD.nil _ _ _ _ _, T1⟩
  · have HC := Lib.hid (mgeC_e hz)
    have HR := Lib.hid (mgeR_1 (L := cards hs) (M := [xs]) (a := a) (b := b) (by rw [HC.out]; exact hz))
    have HTWO : Hid (Calls Try.prog 117 #[.slice D hs.length c, .slice (some ⟨w.heap.size + 1 + 1, 0, none⟩) 1 1, .agg #[.int .i64 a, .int .i64 b]] W _) := Lib.hid (l09Two_any D c hs (some ⟨w.heap.size + 1 + 1, 0, none⟩) 1 [⟨A, cc, xs⟩] a b W rd re hl HTK)
    have e1 := bne_t hz
    clear hz
    go_enter Try.func16, Try.ntmps16
    go_wp2_with fail
    rw [← HW.out]
    refine HTWO.out.mono ?_; rintro e w1 ⟨K1, c1, K2, c2, rfl, hk1, hk2, hb1⟩
    rw [show colC [cards hs, cards [⟨A, cc, xs⟩]] true [] a b = colC [cards hs, [xs]] true [] a b from rfl]
    go_wp2
    go_ret2
    exact ⟨none, 0, [], ret_dd HC.out.symm, HR.out.symm, ObD.nil _ _ _ _ _, bs T0 hb1⟩
end Go.Proofs.Ytdikiokiefpcjaa
