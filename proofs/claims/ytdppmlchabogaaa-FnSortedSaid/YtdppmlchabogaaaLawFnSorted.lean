/- The law FnSorted answers true at every input, and its arguments stay as they were; conditions: none. -/
import Derived.Test.YtdppmlchabogaaaRows
import Derived.Test.YtdppmlchabogaaaLawBase
import Derived.Test.YtdppmlchabogaaaOpenBytes
import Derived.Test.YtdppmlchabogaaaA2
import Derived.Test.YtdppmlchabogaaaSrtLaw
import Derived.Test.YtdppmlchabogaaaOrderBy
namespace Go.Proofs.Ytdppmlchabogaaa
open Go.RowKit Go.ChangeShapes Go.WideShapes Go.ChangeAt

/-! ### the plain law -/
/-- Which places have been met. -/
def seenL (L : List (List Int)) (a b : Int) (q : Nat) : List Bool := (List.range L.length).map fun (k : Nat) => decide ((k : Int) ∈ (ordL L a b).take q)
def bls (xs : List Bool) : List Value := xs.map Value.bool
theorem bls_length (xs : List Bool) : (bls xs).length = xs.length := by simp [bls]
theorem seenL_length (L : List (List Int)) (a b : Int) (q : Nat) : (seenL L a b q).length = L.length := by simp [seenL]
theorem seenL_get {L : List (List Int)} {a b : Int} {q k : Nat} (hk : k < L.length) : (bls (seenL L a b q))[k]? = some (.bool (decide ((k : Int) ∈ (ordL L a b).take q))) := by
  unfold bls seenL
  rw [List.getElem?_map, List.getElem?_map, List.getElem?_range hk]
  rfl
theorem ord_take {L : List (List Int)} {a b : Int} {q : Nat} {z : Int} (h : (ordL L a b)[q]? = some z) : (ordL L a b).take (q + 1) = (ordL L a b).take q ++ [z] := by
  obtain ⟨hq, rfl⟩ := List.getElem?_eq_some_iff.1 h
  exact List.take_succ_eq_append_getElem hq
theorem seenL_new {L : List (List Int)} {a b : Int} {q k : Nat} (h : (ordL L a b)[q]? = some (k : Int)) : ¬ (k : Int) ∈ (ordL L a b).take q := by
  intro hm
  have hn := (ord_nodup L a b).sublist (List.take_sublist (q + 1) (ordL L a b))
  rw [ord_take h, List.nodup_append] at hn
  exact hn.2.2 _ hm _ (List.mem_singleton.2 rfl) rfl
theorem seenL_succ {L : List (List Int)} {a b : Int} {q k : Nat} (h : (ordL L a b)[q]? = some (k : Int)) : bls (seenL L a b (q + 1)) = (bls (seenL L a b q)).set k (.bool true) := by
  apply List.ext_getElem?
  intro j
  by_cases hj : j < L.length
  · rw [seenL_get hj]
    by_cases e : j = k
    · subst e
      rw [List.getElem?_set_self (by rw [bls_length, seenL_length]; exact hj), ord_take h, decide_eq_true (List.mem_append_right _ (List.mem_singleton.2 rfl))]
    · rw [List.getElem?_set_ne (by omega), seenL_get hj, ord_take h]
      congr 2
      rw [decide_eq_decide, List.mem_append, List.mem_singleton]
      constructor
      · rintro (hm | hm)
        · exact hm
        · omega
      · exact .inl
  · rw [List.getElem?_eq_none (by rw [bls_length, seenL_length]; omega), List.getElem?_eq_none (by rw [List.length_set, bls_length, seenL_length]; omega)]
theorem seenL_zero (L : List (List Int)) (a b : Int) : bls (seenL L a b 0) = List.replicate L.length (.bool false) := by
  simp [seenL, bls, List.map_const']
theorem srt_hd {L : List (List Int)} {gs fs : List Hd} {a b : Int} {q k : Nat} (hL : cards gs = L) (hf : cards fs = sortedL L a b) (hq : q < fs.length) (hk : k < gs.length) (h : (ordL L a b)[q]? = some (k : Int)) : fs[q].xs = gs[k].xs := by
  have hql : q < L.length := by rw [← sortedL_length L a b, ← hf, cards_length]; exact hq
  have e1 := cards_get fs q hq
  have e2 := cards_get gs k hk
  rw [hf, srt_at hql h, ← hL, e2] at e1
  injection e1 with e1
  exact e1.symm

/-! ### the walk -/
/-- Behind q places. -/
def FsrR (L : List (List Int)) (a b : Int) (g n cg : Nat) (w5 wr : World) (x : Value) : Prop := ∃ q : Nat, q ≤ n ∧ x = .int .i64 q ∧ wr.ownsRow w5.heap.size 4 1 (.slice (some ⟨g, 0, none⟩) n cg) n (bls (seenL L a b q)) ∧ Below w5.heap.size w5 wr
theorem info_boolK : (Try.prog.info? 4).map (fun i => (i.zero, i.size, i.bytes)) = some (some (.bool false), 1, 1) := by kernel_rfl
theorem falses_bls (n : Nat) : (madeCells (Value.cells (.bool false)) (n * 1)).toList = List.replicate n (.bool false) := by
  rw [Nat.mul_one]
  show (madeCells #[.bool false] n).toList = _
  rw [toList_madeCells_one]

set_option maxRecDepth 100000 in
set_option maxHeartbeats 16000000 in
theorem lawSorted_any (A : Option Addr) (n c : Nat) (bs0 : List UInt8) (B : Option Addr) (n' c' : Nat) (cs0 : List UInt8) (w : World) (ha : Rd w w.heap.size 1 A n (byts bs0)) (hb : Rd w w.heap.size 1 B n' (byts cs0)) :
    Calls Try.prog 3 #[.slice A n c, .slice B n' c'] w fun e w' => e = .returned (.bool true) ∧ Below w.heap.size w w' := by
  obtain ⟨i0, hi0, hz0, hz1, hz2⟩ := info_parts info_boolK
  by_cases hlong : 3000 < n ∨ 3000 < n'
  · go_enter Try.func3, Try.ntmps3
    go_wp2_with fail
    refine (a2Long_yes A B n c n' c' _ hlong).mono ?_; rintro e w1 ⟨rfl, rfl⟩
    go_wp2
    go_ret
    exact ⟨rfl, b0 _⟩
  · have hn : ¬ 3000 < n := fun h => hlong (.inl h)
    have hn' : ¬ 3000 < n' := fun h => hlong (.inr h)
    clear hlong
    go_enter Try.func3, Try.ntmps3
    go_wp2_with fail
    refine (a2Long_no A B n c n' c' _ hn hn').mono ?_; rintro e w1 ⟨rfl, rfl⟩
    go_wp2_with fail
    refine (A2Deck_any A n c bs0 _ ha (by omega)).mono ?_
    rintro e w1 ⟨D, cd, gs, wd, rfl, hg8, hw1, hw3, hgd, hod, hb1⟩
    have HGD := Lib.hid hgd
    have hrb := hb.up hb1
    have hcL : (cards gs).length ≤ 40 := by rw [cards_length]; omega
    have HOK := Lib.hid (good_deck hgd hw1 (by omega) hcL).1
    have HTOT := Lib.hid (good_tot hgd (by omega) (by omega))
    have HWA := Lib.hid (good_w hgd hw1 (by omega) hcL)
    go_wp2_with fail
    refine (a2Field_any D cd gs wd B n' c' cs0 _ hod.rd hgd hw1 (by omega) (by omega) hrb (by omega)).mono ?_
    rintro e w2 ⟨i, j, hij, hjw0, rfl, hb2⟩
    have hjw : j ≤ wd := by have := HWA.out; omega
    have HJD := Lib.hid (show j ≤ deckW (cards gs) by have := HWA.out; omega)
    have HC0 := Lib.hid (good_codeK hgd hw1 (by omega) hcL hij hjw0)
    have TB := ba (b0 w2) (.cells #[.int .i64 (i : Int), .int .i64 (j : Int)] 27)
    have HT2 := Lib.hid (bs (bs hb1 hb2) TB)
    have HOD2 := Lib.hid ((hod.bs hb2).bs TB)
    have kf0 := (show (w2.alloc (.cells #[.int .i64 (i : Int), .int .i64 (j : Int)] 27)).cell? ⟨w2.heap.size, 0, none⟩ = some (.int .i64 (i : Int)) from cell_new rfl rfl)
    have kf1 := (show (w2.alloc (.cells #[.int .i64 (i : Int), .int .i64 (j : Int)] 27)).cell? ⟨w2.heap.size, 1, none⟩ = some (.int .i64 (j : Int)) from cell_new rfl rfl)
    clear hgd hb1 hb2 TB hrb hod
    go_wp2_with fail
    refine (OrderBy_any D cd gs (cards gs) (i : Int) (j : Int) _ HOD2.out.rd rfl (by have := HTOT.out; omega) HOD2.out.cap.1).mono ?_
    rw [HC0.out, ordRes_0 HC0.out, ordL_length, cards_length]
    rintro e w3 ⟨GA, cg, rfl, hog, hb3⟩
    have HOG3 := Lib.hid (Ob.of hog)
    have HOD3 := Lib.hid (HOD2.out.bs hb3)
    have HT3 := Lib.hid (bs HT2.out hb3)
    replace kf0 := cell_later hb3 kf0
    replace kf1 := cell_later hb3 kf1
    clear hog hb3
    go_wp2_with fail
    refine (SortedBy_any D cd gs (cards gs) (i : Int) (j : Int) _ HOD3.out.rd rfl (by have := HTOT.out; omega) HOD3.out.cap.1).mono ?_
    rw [HC0.out, sbRes_0 HC0.out]
    rintro e w4 ⟨FA, cf, fs, rfl, hf, hof, hb4⟩
    have HF := Lib.hid hf
    have HFL := Lib.hid (show fs.length = gs.length by rw [← cards_length fs, hf, sortedL_length, cards_length])
    have HFT := Lib.hid (show fs.length + tot fs ≤ 840 from sbRes_bound (cards gs) (i : Int) (j : Int) (by rw [sbRes_0 HC0.out, hf]))
    have HOF4 := Lib.hid hof
    have HOG4 := Lib.hid (HOG3.out.bs hb4)
    have HOD4 := Lib.hid (HOD3.out.bs hb4)
    have HT4 := Lib.hid (bs HT3.out hb4)
    replace HKF0 := Lib.hid (cell_later hb4 kf0)
    replace HKF1 := Lib.hid (cell_later hb4 kf1)
    clear hf hof hb4 kf0 kf1
    have e1 : ((gs.length : Int) != (gs.length : Int)) = false := bne_f rfl
    have e2 : ((fs.length : Int) != (gs.length : Int)) = false := bne_f (by have := HFL.out; omega)
    go_wp2_with (at_make; refine wpList_make_full _ rfl _ _ 34 rfl w4.heap.size 4 i0 (.bool false) 1 Try.underlying34 hi0 hz0 hz1 _ _ _ _ gs.length rfl rfl rfl rfl (by rw [hz2]; omega) (by unfold maxLen; omega) (by simp) ?_; intro w6 hown6 hgrow6)
    rw [falses_bls] at hown6
    have HO6 := Lib.hid (show w6.ownsRow w4.heap.size 4 1 (.slice (some ⟨w4.heap.size, 0, none⟩) gs.length gs.length) gs.length (bls (seenL (cards gs) (i : Int) (j : Int) 0)) by rw [seenL_zero, cards_length]; exact hown6)
    have HB6 := Lib.hid ((Below.refl w4.heap.size w4).grown hgrow6 (Nat.le_refl _) (by simp))
    clear hown6 hgrow6
    go_wp2
    go_loopw [12, 13, 14, 15] (fun x _ _ _ wr => FsrR (cards gs) (i : Int) (j : Int) w4.heap.size gs.length gs.length w4 wr x) (fun x _ _ _ _ => gs.length - (intOf x).toNat)
    case atStart => exact ⟨0, Nat.zero_le _, rfl, HO6.out, HB6.out⟩
    case round =>
      obtain ⟨wo, rfl⟩ : ∃ wo : World, wo = wr := ⟨_, rfl⟩
      obtain ⟨q, hq, rfl, hown, hbw⟩ := hrel
      by_cases hlt : q < gs.length
      · have i1 : (q : Int) < (gs.length : Int) := by omega
        have hltL : q < (cards gs).length := by rw [cards_length]; exact hlt
        have hltf : q < fs.length := by rw [HFL.out]; exact hlt
        obtain ⟨k, hk, hkL⟩ := ord_at (i : Int) (j : Int) hltL
        rw [cards_length] at hkL
        have HK := Lib.hid hk
        have HEQ := Lib.hid (srt_hd rfl HF.out hltf hkL hk)
        have HNEW := Lib.hid (seenL_new hk)
        have HSN := Lib.hid (seenL_succ hk)
        have HXK := Lib.hid (show GoodX wd gs[k].xs from HGD.out _ (List.mem_map.2 ⟨gs[k], List.getElem_mem hkL, rfl⟩))
        have hlf : fs[q].xs.length ≤ 1048576 := by rw [HEQ.out]; have := HXK.out.1; omega
        clear hk
        have rG := (Ob.rd HOG4.out).up hbw
        obtain ⟨b1, o1, hG1, _, hcG⟩ := rG.at_ hlt
        have d1 := hcG q (.int .i64 (k : Int)) (by unfold ints; rw [List.getElem?_map, HK.out]; rfl)
        have rF := HOF4.out.rd.up hbw
        obtain ⟨b2, o2, hF2, _, hcF⟩ := rF.at_ hltf
        have d2 := hcF q hltf
        have rc1 := rF.card_at hltf
        have rD := HOD4.out.rd.up hbw
        obtain ⟨b3, o3, hD3, _, hcD⟩ := rD.at_ hkL
        have d3 := hcD k hkL
        have rc2 := rD.card_at hkL
        have hg4 : w4.heap.size < wo.heap.size := own_heap hown
        have d4 : wo.cell? ⟨w4.heap.size, k, none⟩ = some (.bool false) := by
          have hlen : k < (bls (seenL (cards gs) (i : Int) (j : Int) q)).length := by rw [bls_length, seenL_length, cards_length]; exact hkL
          rw [own_cell hown k hlen]
          have e := seenL_get (L := cards gs) (a := (i : Int)) (b := (j : Int)) (q := q) (show k < (cards gs).length by rw [cards_length]; exact hkL)
          rw [List.getElem?_eq_getElem hlen, decide_eq_false HNEW.out] at e
          exact e
        have i2 : ¬ (k : Int) < 0 := by omega
        have i3 : ¬ (gs.length : Int) ≤ (k : Int) := by omega
        have i4 : (k : Int) < (gs.length : Int) := by omega
        have i9 : ¬ gs.length ≤ k := by omega
        have ia : decide ((k : Int) < 0) = false := decide_eq_false i2
        have ib : decide ((gs.length : Int) ≤ (k : Int)) = false := decide_eq_false i3
        have i5 : (q : Int) < (fs.length : Int) := by omega
        subst hG1
        subst hF2
        subst hD3
        clear hcG hcF hcD rG rF rD
        have l2 := fun x : Later wo => lat_cell x d2
        have l3 := fun x : Later wo => lat_cell x d3
        have l4 := fun x : Later wo => lat_cell x d4
        go_wp2_with fail
        refine wp_region_later (by kernel_rfl) (by kernel_rfl) ?_
        repeat (go_big_quiet_step ((go_at_call 18; exact lat_call (spSameCard_eq _ _ _ _ _ _ _ HEQ.out (lat_rd _ rc1) (lat_rd _ rc2) hlf))))
        refine wpQuiet_nil ?_
        intro w7 hb7
        have hown7 := own_upg hown hb7 hg4
        have HB7 := Lib.hid (show Below w4.heap.size w4 w7 from hbw.trans (hb7.mono hbw.size))
        replace d4 := cell_later hb7 d4
        have hfy := hown7.frozenAt k
        obtain ⟨w8, hw8⟩ : ∃ w8, w8 = w7.setCell ⟨w4.heap.size, k, none⟩ (.bool true) := ⟨_, rfl⟩
        have HW8 := Lib.hid hw8
        have HO8 := Lib.hid (show w8.ownsRow w4.heap.size 4 1 (.slice (some ⟨w4.heap.size, 0, none⟩) gs.length gs.length) gs.length (bls (seenL (cards gs) (i : Int) (j : Int) (q + 1))) by rw [hw8, HSN.out]; exact ownsRow_set hown7 k _)
        have HB8 := Lib.hid (show Below w4.heap.size w4 w8 by rw [hw8]; exact bset HB7.out _ _ _ (Nat.le_refl _))
        clear l2 l3 l4 hown hbw hb7 hown7 d1 d2 d3 rc1 rc2 hw8
        by_cases hq0 : q = 0
        · have i6 : ¬ (0 : Int) < (q : Int) := by omega
          clear hq0
          go_wp2
          rw [← HW8.out]
          go_roundw
          case rel =>
            have P : FsrR (cards gs) (i : Int) (j : Int) w4.heap.size gs.length gs.length w4 w8 (.int .i64 ((q : Int) + 1)) := ⟨q + 1, by omega, by go_num, HO8.out, HB8.out⟩
            first | exact P | exact ⟨_, P, rfl⟩ | exact ⟨_, _, P, rfl, rfl⟩ | exact ⟨_, _, _, P, rfl, rfl, rfl⟩ | exact ⟨_, _, _, _, P, rfl, rfl, rfl, rfl⟩ | exact ⟨_, _, _, _, _, P, rfl, rfl, rfl, rfl, rfl⟩ | exact ⟨_, _, _, _, _, _, P, rfl, rfl, rfl, rfl, rfl, rfl⟩ | exact ⟨_, _, _, _, _, _, _, P, rfl, rfl, rfl, rfl, rfl, rfl, rfl⟩ | exact ⟨_, _, _, _, _, _, _, _, P, rfl, rfl, rfl, rfl, rfl, rfl, rfl, rfl⟩
          case measure => (simp [intOf]; try omega)
        · have i6 : (0 : Int) < (q : Int) := by omega
          have hl0 : q - 1 < (cards gs).length := by rw [cards_length]; omega
          have hf0 : q - 1 < fs.length := by omega
          obtain ⟨k0, hk0, hk0L⟩ := ord_at (i : Int) (j : Int) hl0
          rw [cards_length] at hk0L
          obtain ⟨z, hz⟩ : ∃ z, z = cmpR (part fs[q - 1].xs (i : Int) (j : Int)) (part fs[q].xs (i : Int) (j : Int)) := ⟨_, rfl⟩
          have HZ := Lib.hid hz
          have HZT := Lib.hid (show z < 0 ∨ (z = 0 ∧ k0 < k) by
            have h2 := (srt_two HOK.out hij HJD.out (show q - 1 < q by omega) hk0 HK.out).2
            rw [cmpC_hd hk0L hkL, ← srt_hd rfl HF.out hf0 hk0L hk0, ← HEQ.out, ← hz] at h2
            exact h2)
          have HK0 := Lib.hid hk0
          have HG0 := Lib.hid (show GoodX wd fs[q - 1].xs by rw [srt_hd rfl HF.out hf0 hk0L hk0]; exact HGD.out _ (List.mem_map.2 ⟨gs[k0], List.getElem_mem hk0L, rfl⟩))
          have HG1 := Lib.hid (show GoodX wd fs[q].xs by rw [HEQ.out]; exact HXK.out)
          have rF := HOF4.out.rd.up HB8.out
          obtain ⟨b5, o5, hF5, _, hcF5⟩ := rF.at_ hltf
          have d5 := hcF5 (q - 1) hf0
          have d6 := hcF5 q hltf
          have rc5 := rF.card_at hf0
          have rc6 := rF.card_at hltf
          have hca5 := rF.cap_at hf0
          have hca6 := rF.cap_at hltf
          have rG := (Ob.rd HOG4.out).up HB8.out
          obtain ⟨b7, o7, hG7, _, hcG7⟩ := rG.at_ hlt
          have d7 := hcG7 (q - 1) (.int .i64 (k0 : Int)) (by unfold ints; rw [List.getElem?_map, HK0.out]; rfl)
          have d8 := cell_later HB8.out HKF0.out
          have d9 := cell_later HB8.out HKF1.out
          injection hF5 with f1
          injection f1 with f1 f2
          subst f1
          subst f2
          injection hG7 with f3
          injection f3 with f3 f4
          subst f3
          subst f4
          have l5 := fun x : Later w8 => lat_cell x d5
          have l6 := fun x : Later w8 => lat_cell x d6
          have l8 := fun x : Later w8 => lat_cell x d8
          have l9 := fun x : Later w8 => lat_cell x d9
          have zq : IntKind.i64.wrap ((q : Int) - 1) = ((q - 1 : Nat) : Int) := by rw [IntKind.wrap_i64]; omega
          have i7 : ((q - 1 : Nat) : Int) < (fs.length : Int) := by omega
          have i8 : ((q - 1 : Nat) : Int) < (gs.length : Int) := by omega
          clear hz hk0 hcF5 hcG7 rF rG d5 d6 d8 d9
          go_wp2_with fail
          rw [← HW8.out]
          refine wp_region_later (by kernel_rfl) (by kernel_rfl) ?_
          repeat (go_big_quiet_step ((go_at_call 19; exact lat_call (spCompareFields_good _ _ _ _ _ _ i j wd z _ HZ.out HG0.out HG1.out (by omega) (by omega) hij hjw (lat_rd _ rc5) (lat_rd _ rc6) hca5 hca6))))
          refine wpQuiet_nil ?_
          intro w9 hb9
          have HO9 := Lib.hid (own_upg HO8.out hb9 (own_heap HO8.out))
          have HB9 := Lib.hid (show Below w4.heap.size w4 w9 from HB8.out.trans (hb9.mono HB8.out.size))
          replace d7 := cell_later hb9 d7
          clear l5 l6 l8 l9 hb9 rc5 rc6
          rcases HZT.out with hz1 | ⟨hz1, hkk⟩
          · have j1 : ¬ (0 : Int) < z := by omega
            have j2 : (z == 0) = false := beq_f (by omega)
            go_wp2
            go_roundw
            case rel =>
              have P : FsrR (cards gs) (i : Int) (j : Int) w4.heap.size gs.length gs.length w4 w9 (.int .i64 ((q : Int) + 1)) := ⟨q + 1, by omega, by go_num, HO9.out, HB9.out⟩
              first | exact P | exact ⟨_, P, rfl⟩ | exact ⟨_, _, P, rfl, rfl⟩ | exact ⟨_, _, _, P, rfl, rfl, rfl⟩ | exact ⟨_, _, _, _, P, rfl, rfl, rfl, rfl⟩ | exact ⟨_, _, _, _, _, P, rfl, rfl, rfl, rfl, rfl⟩ | exact ⟨_, _, _, _, _, _, P, rfl, rfl, rfl, rfl, rfl, rfl⟩ | exact ⟨_, _, _, _, _, _, _, P, rfl, rfl, rfl, rfl, rfl, rfl, rfl⟩ | exact ⟨_, _, _, _, _, _, _, _, P, rfl, rfl, rfl, rfl, rfl, rfl, rfl, rfl⟩
            case measure => (simp [intOf]; try omega)
          · subst hz1
            have j1 : ¬ (k : Int) ≤ (k0 : Int) := by omega
            go_wp2
            go_roundw
            case rel =>
              have P : FsrR (cards gs) (i : Int) (j : Int) w4.heap.size gs.length gs.length w4 w9 (.int .i64 ((q : Int) + 1)) := ⟨q + 1, by omega, by go_num, HO9.out, HB9.out⟩
              first | exact P | exact ⟨_, P, rfl⟩ | exact ⟨_, _, P, rfl, rfl⟩ | exact ⟨_, _, _, P, rfl, rfl, rfl⟩ | exact ⟨_, _, _, _, P, rfl, rfl, rfl, rfl⟩ | exact ⟨_, _, _, _, _, P, rfl, rfl, rfl, rfl, rfl⟩ | exact ⟨_, _, _, _, _, _, P, rfl, rfl, rfl, rfl, rfl, rfl⟩ | exact ⟨_, _, _, _, _, _, _, P, rfl, rfl, rfl, rfl, rfl, rfl, rfl⟩ | exact ⟨_, _, _, _, _, _, _, _, P, rfl, rfl, rfl, rfl, rfl, rfl, rfl, rfl⟩
            case measure => (simp [intOf]; try omega)
      · obtain rfl : q = gs.length := by omega
        have kf0 := cell_later hbw HKF0.out
        have kf1 := cell_later hbw HKF1.out
        have HOF5 := Lib.hid (HOF4.out.bs hbw)
        have HOD5 := Lib.hid (HOD4.out.bs hbw)
        have HT5 := Lib.hid (bs HT4.out hbw)
        have HSC := Lib.hid (show codeK (cards fs) (i : Int) (j : Int) = 0 ∧ srtRes (cards fs) (i : Int) (j : Int) = true by rw [HF.out]; exact ⟨srt_code HC0.out, srt_yes hij HC0.out⟩)
        clear hown hbw
        go_wp2_with fail
        refine (IsSorted_any FA cf fs (cards fs) (i : Int) (j : Int) _ HOF5.out.rd rfl (by have := HFT.out; omega) HOF5.out.cap.1).mono ?_
        rw [HSC.out.1, HSC.out.2]
        rintro e w6 ⟨rfl, hb6⟩
        replace kf0 := cell_later hb6 kf0
        replace kf1 := cell_later hb6 kf1
        have HOD6 := Lib.hid (HOD5.out.bs hb6)
        have HT6 := Lib.hid (bs HT5.out hb6)
        clear hb6
        go_wp2_with fail
        refine (IsSorted_any D cd gs (cards gs) (i : Int) (j : Int) _ HOD6.out.rd rfl (by have := HTOT.out; omega) HOD6.out.cap.1).mono ?_
        have HSF := Lib.hid (srt_fst HC0.out)
        obtain ⟨r, hr⟩ : ∃ r, r = srtRes (cards gs) (i : Int) (j : Int) := ⟨_, rfl⟩
        obtain ⟨x, hx⟩ : ∃ x, x = fstRes (cards gs) (i : Int) (j : Int) := ⟨_, rfl⟩
        rw [HC0.out, ← hr]
        rw [← hr, ← hx] at HSF
        have HX := Lib.hid hx
        clear hr hx
        rintro e w7 ⟨rfl, hb7⟩
        replace kf0 := cell_later hb7 kf0
        replace kf1 := cell_later hb7 kf1
        have HOD7 := Lib.hid (HOD6.out.bs hb7)
        have HT7 := Lib.hid (bs HT6.out hb7)
        clear hb7
        go_wp2_with fail
        refine (FirstStep_any D cd gs (cards gs) (i : Int) (j : Int) _ HOD7.out.rd rfl (by have := HTOT.out; omega) HOD7.out.cap.1).mono ?_
        rw [HC0.out, ← HX.out]
        rintro e w8 ⟨rfl, hb8⟩
        have HT8 := Lib.hid (bs HT7.out hb8)
        clear hb8 kf0 kf1
        go_wp2
        go_ret
        exact ⟨ret_bool (by rw [HSF.out]; exact beq_self_eq_true _), HT8.out⟩

set_option maxRecDepth 100000 in
theorem lawSorted_lifted (os : Os) (started : os.Started) (H : Type) (enc : TypeId × Value → H) :
    ReturnsInHanded {} Try.checked os 3 .any (Rows.fnSortedSpec.pre6 enc Try.prog Try.f3 Rows.fnSortedRow.domain false) (Rows.fnSortedSpec.post enc Try.prog Try.f3 false true false false) := by
  refine returnsInHanded_of_change (C := Try.checked) lawOwn started (by kernel_rfl) Try.func3
    (ChangeSpec.witness6 (enc := enc) (C := Try.checked) false ⟨#[], #[.slice none 0 0, .slice none 0 0], []⟩ 8 (by kernel_rfl) (by kernel_rfl) (by kernel_rfl) (by kernel_rfl)) ?_
  intro W base args ds gs before hval0 hW _ _
  have hval : ∀ (j : Nat) t v, Try.f3.params[j]? = some t → args[j]? = some v → Value.okWide Try.prog W .any base t v := hval0
  clear hval0
  have hW0 : DataW.Whole enc Try.prog Try.f3.params.toList Rows.fnSortedSpec.vars false W args.toList ds gs before := hW
  clear hW
  have hW := hW0
  obtain ⟨p, q, hA, hV, _, _, _⟩ := hW
  rw [Try.params3] at hA hval
  obtain ⟨v0, vs0, d0, ds0, p0, q0, hargs, rfl, rfl, h0, hA0⟩ := trodAll_cons hA
  obtain ⟨v1, vs1, d1, ds1, p1, q1, rfl, rfl, rfl, h1, hA1⟩ := trodAll_cons hA0
  obtain ⟨rfl, rfl, rfl⟩ := trodAll_nil hA1
  have hargs2 : args = #[v0, v1] := by cases args; simp_all
  clear hargs
  subst hargs2
  obtain ⟨A0, c0, bs0, rfl, hc0, hm0, r0⟩ := in_bytes Try.underlying22 Try.underlying5 (by kernel_rfl) (hval 0 22 v0 rfl rfl) h0
  obtain ⟨A1, c1, bs1, rfl, hc1, hm1, r1⟩ := in_bytes Try.underlying22 Try.underlying5 (by kernel_rfl) (hval 1 22 v1 rfl rfl) h1
  have hcall := lawSorted_any A0 _ c0 bs0 A1 _ c1 bs1 W r0 r1
  refine hcall.mono fun e W' ⟨he, hb⟩ => ⟨_, he, ?_⟩
  exact post_law (f := Try.f3) (s := Rows.fnSortedSpec) hW0 rfl (tb := 4) rfl Try.underlying4 rfl lawLaid (by kernel_rfl) hb

theorem fnSorted_holds : Rows.FnSortedSaid :=
  OpenClaim.holds_of_wide 3 Try.f3 rfl rfl rfl rfl rfl rfl rfl ⟨rfl, rfl, rfl, rfl, rfl⟩ rfl rfl rfl rfl rfl (by kernel_rfl) Try.func3 (by kernel_rfl)
    (of_decide_eq_true (by kernel_rfl)) (by unfold Func.isWrapper; first | (rw [if_pos (by decide +kernel)]; kernel_rfl) | (rw [if_neg (by decide +kernel)]; exact ⟨rfl, rfl⟩))
    (fun os started H enc _ => lawSorted_lifted os started H enc)
#print axioms fnSorted_holds
end Go.Proofs.Ytdppmlchabogaaa
