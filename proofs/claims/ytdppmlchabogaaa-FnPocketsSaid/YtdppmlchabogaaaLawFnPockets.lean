/- The law FnPockets answers true at every input, and its arguments stay as they were; conditions: none. -/
import Derived.Test.YtdppmlchabogaaaRows
import Derived.Test.YtdppmlchabogaaaLawBase
import Derived.Test.YtdppmlchabogaaaOpenBytes
import Derived.Test.YtdppmlchabogaaaA2
import Derived.Test.YtdppmlchabogaaaSortPass
import Derived.Test.YtdppmlchabogaaaPocketOf
import Derived.Test.YtdppmlchabogaaaGatherCards
import Derived.Test.YtdppmlchabogaaaRun
namespace Go.Proofs.Ytdppmlchabogaaa
open Go.RowKit Go.ChangeShapes Go.WideShapes Go.ChangeAt

/-! ### the plain law -/
theorem pkt_at {L : List (List Int)} {i : Nat} {b : Int} {q k : Nat} (hq : q < L.length) (hk : pkt L[q] i b = (k : Int)) : (pocketL L i b k)[(pocketL (L.take q) i b k).length]? = some L[q] := by
  have e : pocketL L i b k = pocketL (L.take q) i b k ++ pocketL (L.drop q) i b k := by
    unfold pocketL
    rw [← List.filter_append, List.take_append_drop]
  rw [e, List.getElem?_append_right (Nat.le_refl _), Nat.sub_self, List.drop_eq_getElem_cons hq]
  unfold pocketL
  rw [List.filter_cons, if_pos (by simpa using hk)]
  rfl
theorem pkt_succ {L : List (List Int)} {i : Nat} {b : Int} {q k : Nat} (hq : q < L.length) (hk : pkt L[q] i b = (k : Int)) (j : Nat) : (pocketL (L.take (q + 1)) i b j).length = (pocketL (L.take q) i b j).length + if j = k then 1 else 0 := by
  unfold pocketL
  by_cases e : j = k
  · subst e
    rw [filter_yes hq (by simpa using hk), if_pos rfl, List.length_append]
    rfl
  · rw [filter_no hq (by simp [hk]; omega), if_neg e]
    rfl
def nxtL (L : List (List Int)) (i : Nat) (b : Int) (q : Nat) : List Int := (List.range 13).map fun k => ((pocketL (L.take q) i b k).length : Int)
theorem nxtL_length (L : List (List Int)) (i : Nat) (b : Int) (q : Nat) : (nxtL L i b q).length = 13 := by simp [nxtL]
theorem nxtL_get (L : List (List Int)) (i : Nat) (b : Int) (q : Nat) {k : Nat} (hk : k < 13) : (nxtL L i b q)[k]? = some ((pocketL (L.take q) i b k).length : Int) := by
  unfold nxtL
  rw [List.getElem?_map, List.getElem?_range hk]
  rfl
theorem nxtL_zero (L : List (List Int)) (i : Nat) (b : Int) : nxtL L i b 0 = List.replicate 13 0 := by
  simp [nxtL, pocketL, List.map_const']
theorem nxtL_succ {L : List (List Int)} {i : Nat} {b : Int} {q k : Nat} (hq : q < L.length) (hk : pkt L[q] i b = (k : Int)) (hk13 : k < 13) : nxtL L i b (q + 1) = (nxtL L i b q).set k (((pocketL (L.take q) i b k).length : Int) + 1) := by
  apply List.ext_getElem?
  intro j
  by_cases hj : j < 13
  · rw [nxtL_get _ _ _ _ hj, pkt_succ hq hk]
    by_cases e : j = k
    · subst e
      rw [List.getElem?_set_self (by rw [nxtL_length]; exact hj), if_pos rfl]
      rfl
    · rw [List.getElem?_set_ne (by omega), nxtL_get _ _ _ _ hj, if_neg e]
      rfl
  · rw [List.getElem?_eq_none (by rw [nxtL_length]; omega), List.getElem?_eq_none (by rw [List.length_set, nxtL_length]; omega)]
theorem ints_set (xs : List Int) (k : Nat) (v : Int) : (ints xs).set k (.int .i64 v) = ints (xs.set k v) := by
  unfold ints
  rw [List.map_set]
theorem pkt_nat (x : List Int) (i : Nat) (b : Int) : ∃ k : Nat, pkt x i b = (k : Int) ∧ k < 13 := by
  have h := pocketI_range (x.getD i 0) b
  exact ⟨(pkt x i b).toNat, by unfold pkt; omega, by unfold pkt; omega⟩
theorem flat_sort (L : List (List Int)) (i : Nat) (b : Int) : (sortDD L i b).flatten.Perm L := by
  have h1 := perm_parts (fun x => pkt x i b) (List.range 13) List.nodup_range L
  have h2 : (L.filter fun x => (List.range 13).any fun (k : Nat) => pkt x i b == (k : Int)) = L := List.filter_eq_self.2 fun x _ => by
    obtain ⟨k, hk, hk13⟩ := pkt_nat x i b
    exact List.any_eq_true.2 ⟨k, List.mem_range.2 hk13, by rw [hk]; simp⟩
  rw [h2, List.flatMap_def] at h1
  exact h1

/-! ### the walk -/
/-- Behind q cards. -/
def FpkR (L : List (List Int)) (i : Nat) (b : Int) (g cg : Nat) (w5 wr : World) (x : Value) : Prop := ∃ q : Nat, q ≤ L.length ∧ x = .int .i64 q ∧ wr.ownsRow w5.heap.size 3 1 (.slice (some ⟨g, 0, none⟩) 13 cg) 13 (ints (nxtL L i b q)) ∧ Below w5.heap.size w5 wr
theorem PocketOf_z (A : Option Addr) (c : Nat) (xs : List Int) (a b v z : Int) (w : World) (hv : v = pkV xs a b) (hz : z = pkC xs a b) (ha : Rd w w.heap.size 1 A xs.length (ints xs)) (hl : xs.length ≤ 1048576) (hc : xs.length ≤ c) :
    Calls Try.prog 31 #[.agg #[.slice A xs.length c], .agg #[.int .i64 a, .int .i64 b]] w fun e w' => e = .returned (.tuple #[.int .i64 v, .int .i64 z]) ∧ Below w.heap.size w w' := by
  subst hv hz
  exact PocketOf_any A c xs a b w ha hl hc
theorem info_intK : (Try.prog.info? 3).map (fun i => (i.zero, i.size, i.bytes)) = some (some (.int .i64 0), 1, 8) := by kernel_rfl

set_option maxRecDepth 100000 in
set_option maxHeartbeats 16000000 in
theorem lawPockets_any (A : Option Addr) (n c : Nat) (bs0 : List UInt8) (B : Option Addr) (n' c' : Nat) (cs0 : List UInt8) (w : World) (ha : Rd w w.heap.size 1 A n (byts bs0)) (hb : Rd w w.heap.size 1 B n' (byts cs0)) :
    Calls Try.prog 5 #[.slice A n c, .slice B n' c'] w fun e w' => e = .returned (.bool true) ∧ Below w.heap.size w w' := by
  obtain ⟨i0, hi0, hz0, hz1, hz2⟩ := info_parts info_intK
  by_cases hlong : 3000 < n ∨ 3000 < n'
  · go_enter Try.func5, Try.ntmps5
    go_wp2_with fail
    refine (a2Long_yes A B n c n' c' _ hlong).mono ?_; rintro e w1 ⟨rfl, rfl⟩
    go_wp2
    go_ret
    exact ⟨rfl, b0 _⟩
  · have hn : ¬ 3000 < n := fun h => hlong (.inl h)
    have hn' : ¬ 3000 < n' := fun h => hlong (.inr h)
    clear hlong
    go_enter Try.func5, Try.ntmps5
    go_wp2_with fail
    refine (a2Long_no A B n c n' c' _ hn hn').mono ?_; rintro e w1 ⟨rfl, rfl⟩
    go_wp2_with fail
    refine (A2Deck_any A n c bs0 _ ha (by omega)).mono ?_
    rintro e w1 ⟨D, cd, gs, wd, rfl, hg8, hw1, hw3, hgd, hod, hb1⟩
    have HGD := Lib.hid hgd
    have hrb := hb.up hb1
    have hcL : (cards gs).length ≤ 40 := by rw [cards_length]; omega
    have HOK := Lib.hid (good_deck hgd hw1 (by omega) hcL).1
    have HTOT := Lib.hid (good_tot hgd (by omega) (by omega))
    obtain ⟨W, hW⟩ : ∃ W, W = a2W (cards gs) := ⟨_, rfl⟩
    have HW := Lib.hid hW
    have HWA := Lib.hid (show 1 ≤ W ∧ W ≤ deckW (cards gs) ∧ W ≤ wd by rw [hW]; exact good_w hgd hw1 (by omega) hcL)
    have HOD1 := Lib.hid hod
    have HB1 := Lib.hid hb1
    clear hW hgd hb1 hod
    go_wp2_with fail
    refine (a2Width_any D cd gs _ HOD1.out.rd (by omega)).mono ?_; rintro e w2 ⟨rfl, rfl⟩
    rw [← HW.out]
    go_wp2_with fail
    refine (a2At_any B n' c' cs0 0 W _ hrb (by omega) HWA.out.1 (by have := HWA.out.2.2; omega) (by omega)).mono ?_
    rintro e w3 ⟨i, hi, rfl, rfl⟩
    go_wp2_with fail
    refine (a2At_any B n' c' cs0 1 2 _ hrb (by omega) (by omega) (by omega) (by omega)).mono ?_
    rintro e w4 ⟨m, hm, rfl, rfl⟩
    obtain ⟨b, hbm⟩ : ∃ b : Nat, b = 1 + m := ⟨_, rfl⟩
    have hb12 : b = 1 ∨ b = 2 := by omega
    have zb : IntKind.i64.wrap (1 + (m : Int)) = (b : Int) := by rw [IntKind.wrap_i64]; omega
    have HB12 := Lib.hid (show (b : Int) = 1 ∨ (b : Int) = 2 by omega)
    clear hbm hm hb12
    have HPO := Lib.hid (show passOk (deckW (cards gs) : Int) ((i : Int), (b : Int)) = true by
      have := HWA.out.2.1
      unfold passOk
      rw [insideB_mk (by omega) (by omega)]
      unfold modeB
      rcases HB12.out with h | h <;> simp [h])
    have HC7 := Lib.hid (show code7 (cards gs) (i : Int) (b : Int) = 0 by unfold code7; rw [if_pos HOK.out, if_pos HPO.out])
    have TB := ba (b0 w1) (.cells #[.int .i64 (i : Int), .int .i64 (b : Int)] 52)
    have HT2 := Lib.hid (bs HB1.out TB)
    have HOD2 := Lib.hid (HOD1.out.bs TB)
    have kf0 := (show (w1.alloc (.cells #[.int .i64 (i : Int), .int .i64 (b : Int)] 52)).cell? ⟨w1.heap.size, 0, none⟩ = some (.int .i64 (i : Int)) from cell_new rfl rfl)
    have kf1 := (show (w1.alloc (.cells #[.int .i64 (i : Int), .int .i64 (b : Int)] 52)).cell? ⟨w1.heap.size, 1, none⟩ = some (.int .i64 (b : Int)) from cell_new rfl rfl)
    clear TB hrb
    go_wp2_with fail
    refine (SortPass_any D cd gs (cards gs) (i : Int) (b : Int) _ HOD2.out.rd rfl (by have := HTOT.out; omega) HOD2.out.cap.1).mono ?_
    rw [HC7.out]
    rintro e w5 ⟨E, ce, ds, rfl, hds, hoe, hb5⟩
    have HDS := Lib.hid (show decks ds = sortDD (cards gs) i (b : Int) by rw [hds, sortRes_0 HC7.out])
    have HDB := Lib.hid (sortRes_bound _ _ _ hds)
    have hdl0 : ds.length = 13 := sort13 HDS.out
    have hdl1 : 13 ≤ ds.length := by omega
    have hdl2 : ds.length ≤ 13 := by omega
    clear hdl0
    have HOE5 := Lib.hid hoe
    have HOD5 := Lib.hid (HOD2.out.bs hb5)
    have HT5 := Lib.hid (bs HT2.out hb5)
    replace kf0 := cell_later hb5 kf0
    replace kf1 := cell_later hb5 kf1
    clear hds hoe hb5
    have HKF0 := Lib.hid kf0
    have HKF1 := Lib.hid kf1
    have e1 : ((ds.length : Int) != 13) = false := bne_f (by omega)
    go_wp2_with (at_make; refine wpList_make_full _ rfl _ _ 56 rfl w5.heap.size 3 i0 (.int .i64 0) 1 Try.underlying56 hi0 hz0 hz1 _ _ _ _ 13 rfl rfl rfl rfl (by rw [hz2]; omega) (by unfold maxLen; omega) (by simp) ?_; intro w6 hown6 hgrow6)
    rw [zeros_ints] at hown6
    have HO6 := Lib.hid (show w6.ownsRow w5.heap.size 3 1 (.slice (some ⟨w5.heap.size, 0, none⟩) 13 13) 13 (ints (nxtL (cards gs) i (b : Int) 0)) by rw [nxtL_zero]; exact hown6)
    have HB6 := Lib.hid ((Below.refl w5.heap.size w5).grown hgrow6 (Nat.le_refl _) (by simp))
    clear hown6 hgrow6 kf0 kf1
    go_wp2
    go_loopw [10, 11, 12] (fun x _ _ wr => FpkR (cards gs) i (b : Int) w5.heap.size 13 w5 wr x) (fun x _ _ _ => gs.length - (intOf x).toNat)
    case atStart => exact ⟨0, Nat.zero_le _, rfl, HO6.out, HB6.out⟩
    case round =>
      obtain ⟨wo, rfl⟩ : ∃ wo : World, wo = wr := ⟨_, rfl⟩
      obtain ⟨q, hq, rfl, hown, hbw⟩ := hrel
      rw [cards_length] at hq
      by_cases hlt : q < gs.length
      · have i1 : (q : Int) < (gs.length : Int) := by omega
        obtain ⟨k, hk, hk13⟩ := pkt_nat gs[q].xs i (b : Int)
        have hltL : q < (cards gs).length := by rw [cards_length]; exact hlt
        have hLq : (cards gs)[q] = gs[q].xs := by simp [cards]
        have HK := Lib.hid (show pkt (cards gs)[q] i (b : Int) = (k : Int) by rw [hLq, hk])
        have HX := Lib.hid (show GoodX wd gs[q].xs from HGD.out _ (List.mem_map.2 ⟨gs[q], List.getElem_mem hlt, rfl⟩))
        have HPC := Lib.hid (show 0 = pkC gs[q].xs (i : Int) (b : Int) ∧ (k : Int) = pkV gs[q].xs (i : Int) (b : Int) by
          have hx := HX.out
          have hcd : cardOk gs[q].xs = true := by unfold cardOk; rw [hx.2.2, insideB_mk (by have := hx.1; omega) (by have := hx.1; omega)]; rfl
          have hpo : passOk (gs[q].xs.length : Int) ((i : Int), (b : Int)) = true := by
            have := HWA.out.2.2
            unfold passOk
            rw [insideB_mk (by omega) (by rw [hx.1]; omega)]
            unfold modeB
            rcases HB12.out with h | h <;> simp [h]
          have := pk_ok hcd hpo
          exact ⟨this.2.symm, by rw [this.1, ← hk]; unfold pkt; rw [Int.toNat_natCast]⟩)
        have HCN := Lib.hid (show (ints (nxtL (cards gs) i (b : Int) q))[k]? = some (.int .i64 ((pocketL ((cards gs).take q) i (b : Int) k).length : Int)) by unfold ints; rw [List.getElem?_map, nxtL_get _ _ _ _ hk13]; rfl)
        have HAT := Lib.hid (pkt_at hltL HK.out)
        have HNX := Lib.hid (nxtL_succ hltL HK.out hk13)
        obtain ⟨m, hm⟩ : ∃ m, m = (pocketL ((cards gs).take q) i (b : Int) k).length := ⟨_, rfl⟩
        rw [← hm] at HCN HAT HNX
        have hmq : m ≤ q := by rw [hm]; unfold pocketL; exact Nat.le_trans (List.length_filter_le _ _) (by rw [List.length_take]; omega)
        clear hm hk
        have hkd : k < ds.length := by omega
        have HDK := Lib.hid (show cards ds[k].hs = pocketL (cards gs) i (b : Int) k by
          rw [← sortDD_getD (cards gs) i (b : Int) hk13, ← HDS.out, decks_getD ds k hkd])
        have hmk : m < ds[k].hs.length := by rw [← cards_length, HDK.out]; exact (List.getElem?_eq_some_iff.1 HAT.out).1
        have HEQ := Lib.hid (show ds[k].hs[m].xs = gs[q].xs by
          have e1 := cards_get ds[k].hs m hmk
          rw [HDK.out, HAT.out, hLq] at e1
          injection e1 with e1
          exact e1.symm)
        have hle : ds[k].hs[m].xs.length ≤ 1048576 := by rw [HEQ.out]; have := HX.out.1; omega
        have hle2 : gs[q].xs.length ≤ 1048576 := by have := HX.out.1; omega
        have rD := HOD5.out.rd.up hbw
        obtain ⟨b3, o3, hD, _, hcD⟩ := rD.at_ hlt
        have d3 := hcD q hlt
        have rc := rD.card_at hlt
        have hcc := rD.cap_at hlt
        have kf0 := cell_later hbw HKF0.out
        have kf1 := cell_later hbw HKF1.out
        have l0 := fun x : Later wo => lat_cell x d3
        have l1 := fun x : Later wo => lat_cell x kf0
        have l2 := fun x : Later wo => lat_cell x kf1
        subst hD
        go_wp2_with fail
        refine wp_region_later (by kernel_rfl) (by kernel_rfl) ?_
        repeat (go_big_quiet_step ((go_at_call 31; exact lat_call (PocketOf_z _ _ _ _ _ (k : Int) 0 _ HPC.out.2 HPC.out.1 (lat_rd _ rc) hle2 hcc))))
        refine wpQuiet_nil ?_
        intro w7 hb7
        have hg5 : w5.heap.size < wo.heap.size := own_heap hown
        have hown7 := own_upg hown hb7 hg5
        have HB7 := Lib.hid (show Below w5.heap.size w5 w7 from hbw.trans (hb7.mono hbw.size))
        have hbw7 := HB7.out
        clear l0 l1 l2 hown hbw hb7 rD d3 hcD rc kf0 kf1 hcc
        have rD7 := HOD5.out.rd.up hbw7
        obtain ⟨b4, o4, hD4, _, hcD4⟩ := rD7.at_ hlt
        have d3 := hcD4 q hlt
        have rc := rD7.card_at hlt
        have rE7 := HOE5.out.rd.up hbw7
        obtain ⟨bE, oE, hE, _, hcE⟩ := rE7.at_ hkd
        have d4 := hcE k hkd
        have rK := rE7.deck_at hkd
        obtain ⟨bK, oK, hKa, _, hcK⟩ := rK.at_ hmk
        have d5 := hcK m hmk
        have rc2 := rK.card_at hmk
        have d6 : w7.cell? ⟨w5.heap.size, k, none⟩ = some (.int .i64 (m : Int)) := by
          have hlen : k < (ints (nxtL (cards gs) i (b : Int) q)).length := by rw [ints_length, nxtL_length]; exact hk13
          rw [own_cell hown7 k hlen]
          have := HCN.out
          rwa [List.getElem?_eq_getElem hlen] at this
        rw [hKa] at d4
        injection hD4 with e1
        injection e1 with e1 e2
        subst e1
        subst e2
        have l3 := fun x : Later w7 => lat_cell x d3
        have l4 := fun x : Later w7 => lat_cell x d4
        have l5 := fun x : Later w7 => lat_cell x d5
        have l6 := fun x : Later w7 => lat_cell x d6
        have j1 : ¬ (k : Int) < 0 := by omega
        have j2 : ¬ (13 : Int) ≤ (k : Int) := by omega
        have j3 : (k : Int) < (13 : Int) := by omega
        have j4 : ¬ (ds[k].hs.length : Int) ≤ (m : Int) := by omega
        have j5 : (m : Int) < (ds[k].hs.length : Int) := by omega
        have j7 : ¬ ds[k].hs.length ≤ m := by omega
        have j8 : ¬ 13 ≤ k := by omega
        have ja : decide ((k : Int) < 0) = false := decide_eq_false j1
        have jb : decide ((13 : Int) ≤ (k : Int)) = false := decide_eq_false j2
        have jc : decide ((ds[k].hs.length : Int) ≤ (m : Int)) = false := decide_eq_false j4
        have j6 : (k : Int) < (ds.length : Int) := by omega
        subst hE
        clear d3 d4 d5 hcE hcK hcD4 rD7 rE7 rK
        go_wp2_with fail
        refine wp_region_later (by kernel_rfl) (by kernel_rfl) ?_
        repeat (go_big_quiet_step ((go_at_call 18; exact lat_call (spSameCard_eq _ _ _ _ _ _ _ HEQ.out (lat_rd _ rc2) (lat_rd _ rc) hle))))
        refine wpQuiet_nil ?_
        intro w8 hb8
        have hown8 := own_upg hown7 hb8 (own_heap hown7)
        have HB8 := Lib.hid (show Below w5.heap.size w5 w8 from HB7.out.trans (hb8.mono HB7.out.size))
        replace d6 := cell_later hb8 d6
        have hfy := hown8.frozenAt k
        clear l3 l4 l5 l6 rc rc2 hb8 hown7 hbw7
        have zm : IntKind.i64.wrap ((m : Int) + 1) = (m : Int) + 1 := by rw [IntKind.wrap_i64]; omega
        go_wp2
        go_roundw
        case rel =>
          have P : FpkR (cards gs) i (b : Int) w5.heap.size 13 w5 (w8.setCell ⟨w5.heap.size, k, none⟩ (.int .i64 ((m : Int) + 1))) (.int .i64 ((q : Int) + 1)) :=
            ⟨q + 1, by rw [cards_length]; omega, by go_num, by rw [HNX.out, ← ints_set]; exact ownsRow_set hown8 k _, bset HB8.out _ _ _ (Nat.le_refl _)⟩
          first | exact P | exact ⟨_, P, rfl⟩ | exact ⟨_, _, P, rfl, rfl⟩ | exact ⟨_, _, _, P, rfl, rfl, rfl⟩ | exact ⟨_, _, _, _, P, rfl, rfl, rfl, rfl⟩ | exact ⟨_, _, _, _, _, P, rfl, rfl, rfl, rfl, rfl⟩ | exact ⟨_, _, _, _, _, _, P, rfl, rfl, rfl, rfl, rfl, rfl⟩ | exact ⟨_, _, _, _, _, _, _, P, rfl, rfl, rfl, rfl, rfl, rfl, rfl⟩ | exact ⟨_, _, _, _, _, _, _, _, P, rfl, rfl, rfl, rfl, rfl, rfl, rfl, rfl⟩
        case measure => (simp [intOf]; try omega)
      · obtain rfl : q = gs.length := by omega
        have HO := Lib.hid (show wo.ownsRow w5.heap.size 3 1 (.slice (some ⟨w5.heap.size, 0, none⟩) 13 13) 13 (ints (nxtL (cards gs) i (b : Int) (cards gs).length)) by rw [cards_length]; exact hown)
        have HBW := Lib.hid hbw
        have hg5 : w5.heap.size < wo.heap.size := own_heap hown
        clear hown hbw hq
        go_wp2
        go_loopw [13] (fun x wr => ∃ q : Nat, q ≤ 13 ∧ x = .int .i64 q ∧ Below wo.heap.size wo wr) (fun x _ => 13 - (intOf x).toNat)
        case atStart => exact ⟨0, by omega, rfl, b0 _⟩
        case round =>
          obtain ⟨wp, rfl⟩ : ∃ wp : World, wp = wr := ⟨_, rfl⟩
          obtain ⟨k, hk, rfl, hbp⟩ := hrel
          have HBP := Lib.hid (show Below w5.heap.size w5 wp from HBW.out.trans (hbp.mono HBW.out.size))
          by_cases hk13 : k < 13
          · have hkd : k < ds.length := by omega
            have i1 : (k : Int) < 13 := by omega
            have i2 : (k : Int) < (ds.length : Int) := by omega
            have HDK := Lib.hid (show cards ds[k].hs = pocketL (cards gs) i (b : Int) k by
              rw [← sortDD_getD (cards gs) i (b : Int) hk13, ← HDS.out, decks_getD ds k hkd])
            have hown := own_upg HO.out hbp hg5
            have d6 : wp.cell? ⟨w5.heap.size, k, none⟩ = some (.int .i64 (ds[k].hs.length : Int)) := by
              have hlen : k < (ints (nxtL (cards gs) i (b : Int) (cards gs).length)).length := by rw [ints_length, nxtL_length]; exact hk13
              rw [own_cell hown k hlen]
              have e : (ints (nxtL (cards gs) i (b : Int) (cards gs).length))[k]? = some (.int .i64 (ds[k].hs.length : Int)) := by
                unfold ints
                rw [List.getElem?_map, nxtL_get _ _ _ _ hk13, List.take_length, ← HDK.out, cards_length]
                rfl
              rwa [List.getElem?_eq_getElem hlen] at e
            have rE := HOE5.out.rd.up HBP.out
            obtain ⟨bE, oE, hE, _, hcE⟩ := rE.at_ hkd
            have d4 := hcE k hkd
            have e2 : ((ds[k].hs.length : Int) != (ds[k].hs.length : Int)) = false := bne_f rfl
            have HBN := Lib.hid (show Below wo.heap.size wo wp.drew from hbp.drew)
            subst hE
            clear hcE rE hown hbp
            go_wp2
            go_region
            go_wp2
            go_roundw
            case rel => exact ⟨k + 1, by omega, by go_num, HBN.out⟩
            case measure => (simp [intOf]; try omega)
          · obtain rfl : k = 13 := by omega
            have kf0 := cell_later HBP.out HKF0.out
            have kf1 := cell_later HBP.out HKF1.out
            have HOD7 := Lib.hid (HOD5.out.bs HBP.out)
            have HGC := Lib.hid (gcC_0 (P := sortDD (cards gs) i (b : Int)) (m := (b : Int)) (by simp [sortDD]) (deckOk_perm (flat_sort (cards gs) i (b : Int)) HOK.out) (by unfold modeB; rcases HB12.out with h | h <;> simp [h]))
            have HRP := Lib.hid (codeP_0 (ps := [((i : Int), (b : Int))]) HOK.out (by rw [passesOk_one]; exact HPO.out))
            have HRB := Lib.hid (fun (xs : List Hd) (h : cards xs = runRes (cards gs) [((i : Int), (b : Int))]) => runRes_bound _ _ h)
            clear hbp
            go_wp2_with fail
            refine (GatherCards_any E ce ds _ (b : Int) _ (HOE5.out.rd.up HBP.out) HDS.out HDB.out).mono ?_
            rw [HGC.out.1, HGC.out.2]
            rintro e w8 ⟨GA, cg, fs, rfl, hf, hof, hb8⟩
            have HF := Lib.hid (show cards fs = runL (cards gs) [((i : Int), (b : Int))] from hf)
            have HOF := Lib.hid hof
            have HOD8 := Lib.hid (HOD7.out.bs hb8)
            have HT8 := Lib.hid (bs (bs HT5.out HBP.out) hb8)
            replace kf0 := cell_later hb8 kf0
            replace kf1 := cell_later hb8 kf1
            clear hf hof hb8
            go_wp2_with fail
            refine (RunPass_any D cd gs (cards gs) (i : Int) (b : Int) _ HOD8.out.rd rfl (by have := HTOT.out; omega) HOD8.out.cap.1).mono ?_
            rw [HRP.out.1]
            rintro e w9 ⟨RA, cr, rs, rfl, hr, hor, hb9⟩
            have HR := Lib.hid (show cards fs = cards rs by rw [hr, HRP.out.2, HF.out])
            have HFB := Lib.hid (show fs.length + tot fs ≤ 840 from HRB.out fs (by rw [HRP.out.2, HF.out]))
            have HOR := Lib.hid hor
            have HOF9 := Lib.hid (HOF.out.bs hb9)
            have HT9 := Lib.hid (bs HT8.out hb9)
            have HFL := Lib.hid (show fs.length = gs.length by
              rw [← cards_length fs, HF.out, ← cards_length gs]
              exact (runP_perm (cards gs) (p := ((i : Int), (b : Int))) HB12.out).length_eq)
            have j1 : (fs.length : Int) = (gs.length : Int) := by have := HFL.out; omega
            have j2 : ((fs.length : Int) == (gs.length : Int)) = true := beq_t j1
            clear hr hor hb9 kf0 kf1 j1
            go_wp2_with fail
            refine (spSameDeck_eq GA RA cg cr fs rs _ HR.out HOF9.out.rd HOR.out.rd (by have := HFB.out; omega)).mono ?_
            rintro e w10 ⟨rfl, hb10⟩
            go_wp2
            go_ret
            exact ⟨rfl, bs HT9.out hb10⟩

set_option maxRecDepth 100000 in
theorem lawPockets_lifted (os : Os) (started : os.Started) (H : Type) (enc : TypeId × Value → H) :
    ReturnsInHanded {} Try.checked os 5 .any (Rows.fnPocketsSpec.pre6 enc Try.prog Try.f5 Rows.fnPocketsRow.domain false) (Rows.fnPocketsSpec.post enc Try.prog Try.f5 false true false false) := by
  refine returnsInHanded_of_change (C := Try.checked) lawOwn started (by kernel_rfl) Try.func5
    (ChangeSpec.witness6 (enc := enc) (C := Try.checked) false ⟨#[], #[.slice none 0 0, .slice none 0 0], []⟩ 8 (by kernel_rfl) (by kernel_rfl) (by kernel_rfl) (by kernel_rfl)) ?_
  intro W base args ds gs before hval0 hW _ _
  have hval : ∀ (j : Nat) t v, Try.f5.params[j]? = some t → args[j]? = some v → Value.okWide Try.prog W .any base t v := hval0
  clear hval0
  have hW0 : DataW.Whole enc Try.prog Try.f5.params.toList Rows.fnPocketsSpec.vars false W args.toList ds gs before := hW
  clear hW
  have hW := hW0
  obtain ⟨p, q, hA, hV, _, _, _⟩ := hW
  rw [Try.params5] at hA hval
  obtain ⟨v0, vs0, d0, ds0, p0, q0, hargs, rfl, rfl, h0, hA0⟩ := trodAll_cons hA
  obtain ⟨v1, vs1, d1, ds1, p1, q1, rfl, rfl, rfl, h1, hA1⟩ := trodAll_cons hA0
  obtain ⟨rfl, rfl, rfl⟩ := trodAll_nil hA1
  have hargs2 : args = #[v0, v1] := by cases args; simp_all
  clear hargs
  subst hargs2
  obtain ⟨A0, c0, bs0, rfl, hc0, hm0, r0⟩ := in_bytes Try.underlying22 Try.underlying5 (by kernel_rfl) (hval 0 22 v0 rfl rfl) h0
  obtain ⟨A1, c1, bs1, rfl, hc1, hm1, r1⟩ := in_bytes Try.underlying22 Try.underlying5 (by kernel_rfl) (hval 1 22 v1 rfl rfl) h1
  have hcall := lawPockets_any A0 _ c0 bs0 A1 _ c1 bs1 W r0 r1
  refine hcall.mono fun e W' ⟨he, hb⟩ => ⟨_, he, ?_⟩
  exact post_law (f := Try.f5) (s := Rows.fnPocketsSpec) hW0 rfl (tb := 4) rfl Try.underlying4 rfl lawLaid (by kernel_rfl) hb

theorem fnPockets_holds : Rows.FnPocketsSaid :=
  OpenClaim.holds_of_wide 5 Try.f5 rfl rfl rfl rfl rfl rfl rfl ⟨rfl, rfl, rfl, rfl, rfl⟩ rfl rfl rfl rfl rfl (by kernel_rfl) Try.func5 (by kernel_rfl)
    (of_decide_eq_true (by kernel_rfl)) (by unfold Func.isWrapper; first | (rw [if_pos (by decide +kernel)]; kernel_rfl) | (rw [if_neg (by decide +kernel)]; exact ⟨rfl, rfl⟩))
    (fun os started H enc _ => lawPockets_lifted os started H enc)
#print axioms fnPockets_holds
end Go.Proofs.Ytdppmlchabogaaa
