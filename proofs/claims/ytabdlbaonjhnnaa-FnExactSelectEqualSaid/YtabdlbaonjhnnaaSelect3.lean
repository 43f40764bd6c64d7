/- SelectEqual in the reference. -/
import Derived.Test.YtabdlbaonjhnnaaSelect2
namespace Go.Proofs.Ytabdlbaonjhnnaa
open Go.RowKit

theorem sel_one {xs : List Int} {u : List UInt8} {s : ByteArray} {i j : Nat} (hu : u = textL (part xs (i : Int) (j : Int))) (hlg : legalL (part xs (i : Int) (j : Int)) = true) (hul : u.length = j - i) (hs : s.size = j - i) (hc : chaB s = true) : selB s s (i : Int) (j : Int) xs = !decide (bs_ u = s) := by
  have h1 : u.all chB = true := by rw [hu]; exact textL_ch hlg
  have h2 := cmpT_eq h1 hc (show u.length = (byt s).length by rw [byt_size, hul, hs])
  have h3 : (bs_ u = s) ↔ u = byt s := by
    constructor
    · intro h
      rw [← h]
      rfl
    · intro h
      rw [h]
      cases s
      rfl
  unfold selB
  rw [← hu]
  by_cases h : u = byt s
  · rw [h2.2 h, decide_eq_true (h3.2 h)]
    rfl
  · rw [decide_eq_false (fun e => h (h3.1 e))]
    have h4 : cmpT u (byt s) ≠ 0 := fun e => h (h2.1 e)
    rcases cmpN_range (u.map rankC) ((byt s).map rankC) with h5 | h5 | h5
    · have h6 : cmpT u (byt s) = -1 := h5
      rw [h6]; rfl
    · exact absurd h5 h4
    · have h6 : cmpT u (byt s) = 1 := h5
      rw [h6]; rfl
set_option maxRecDepth 100000 in
set_option maxHeartbeats 8000000 in
theorem spSelectEqual_any (D : Option Addr) (c : Nat) (hs : List Hd) (L : List (List Int)) (a b : Int) (s : ByteArray) (w : World) (ha : RdD w w.heap.size D hs) (hL : cards hs = L) (hl : hs.length + tot hs ≤ 1048576) (_hc : hs.length ≤ c) (hq1 : s.size ≤ 1048576) :
    Calls Try.prog 16 #[.slice D hs.length c, .agg #[.int .i64 a, .int .i64 b], .string s] w fun e w' => ∃ E ce gs, e = .returned (.tuple #[.slice E gs.length ce, .int .i64 (colC [L] true [s] a b)]) ∧ cards gs = selRes L a b s s ∧ ObD w' w.heap.size w'.heap.size 62 2 E ce gs ∧ Below w.heap.size w w' := by
  obtain ⟨j0, hj, hj0, hj1, hj2⟩ := info_parts info_cardD
  subst hL
  obtain ⟨W, hW⟩ : ∃ W, W = (w.alloc (.cells #[.int .i64 a, .int .i64 b] 30)).alloc (.cells #[.string s] 9) := ⟨_, rfl⟩
  have T0 : Below w.heap.size w W := by rw [hW]; exact ba (ba (b0 w) _) _
  have ra : RdD W W.heap.size D hs := by rw [hW]; exact (ha.a1 _).a1 _
  have k5 : W.cell? ⟨w.heap.size + 1, 0, none⟩ = some (.string s) := by rw [hW]; exact cell_new (by simp) rfl
  have rts := rd_str1 k5
  have HW := Lib.hid hW
  have hts : ∀ k (h : k < [s].length), [s][k].size ≤ 1048576 := by
    intro k h
    match k, h with
    | 0, _ => exact hq1
  have HCO := Lib.hid (l09Ask_any D c hs (some ⟨w.heap.size + 1, 0, none⟩) 1 [s] a b W ra hl rts (by simp) hts)
  have HCL := Lib.hid (cards_length hs)
  clear hW k5 rts ha hts
  by_cases hz : colC [cards hs] true [s] a b = 0
  · obtain ⟨hk, hlen, hcha⟩ := colC_zero hz
    obtain ⟨h1, h2, h3⟩ := codeK_zero hk
    obtain ⟨i, j, rfl, rfl, hij, hjw⟩ := fieldOk_nat h2
    have h40 : hs.length ≤ 40 := by have := deckOk_len h1; rwa [cards_length] at this
    have hj20 : j ≤ 20 := Nat.le_trans hjw (deckOk_wid h1).1
    have HZ := Lib.hid hz
    have H1 := Lib.hid h1
    have H3 := Lib.hid h3
    have HR := Lib.hid (selRes_0 (s := s) (t := s) ((colC_twice _ _ _ _).trans hz))
    simp only [List.all_cons, List.all_nil, Bool.and_true, Bool.and_eq_true] at hlen hcha
    have HLS := Lib.hid (lenB_nat hij hlen)
    have HCS := Lib.hid hcha
    have HAR := Lib.hid (askRes_0 hz)
    obtain ⟨ks, hks⟩ : ∃ ks, ks = askRes (cards hs) [s] (i : Int) (j : Int) := ⟨_, rfl⟩
    have HKS := Lib.hid (show ks = keysL (cards hs) (i : Int) (j : Int) by rw [hks, HAR.out])
    have HKL := Lib.hid (show ks.length = hs.length by rw [HKS.out, keysL_length, HCL.out])
    rw [← hks] at HCO
    clear hz hk h1 h2 h3 hlen hcha hks
    go_enter Try.func16, Try.ntmps16
    go_wp2_with fail
    rw [← HW.out]
    refine HCO.out.mono ?_; rintro e w1 ⟨K, ck, rfl, hown0, hb1⟩
    rw [HKL.out] at hown0 ⊢
    have e0 : colC [cards hs] true [s] (i : Int) (j : Int) = 0 := HZ.out
    have T2 : Below W.heap.size W (w1.alloc (.cells #[] 62)) := ba hb1 _
    have ho2 : Ob (w1.alloc (.cells #[] 62)) W.heap.size (w1.alloc (.cells #[] 62)).heap.size 9 1 (.slice K hs.length ck) hs.length (strs ks) := ((Ob.of hown0).alloc _).mono (Nat.le_refl _) (by simp)
    have hrow0 : (w1.alloc (.cells #[] 62)).ownsRow W.heap.size 62 1 (.slice (some ⟨w1.heap.size, 0, none⟩) 0 0) 0 [] := own_base (own_lit w1 #[] 0 rfl (Nat.le_refl _) (by omega) rfl) hb1.size
    clear hown0 hb1
    go_wp2
    clear e0
    go_loopw [10, 11] (fun o q wr => SeR (cards hs) (selB s s (i : Int) (j : Int)) ks K ck hs.length W wr o q) (fun _ q _ => hs.length - (intOf q).toNat)
    case atStart => exact ⟨0, _, _, [], Nat.zero_le _, rfl, rfl, Nat.le_refl _, rfl, ObD.empty (Ob.of hrow0), ho2, T2⟩
    case round =>
      obtain ⟨wo, rfl⟩ : ∃ wo : World, wo = wr := ⟨_, rfl⟩
      obtain ⟨k, G, cg, gs, hk, rfl, rfl, hgk, hgc, hob, hoo, hbw⟩ := hrel
      have HGC := Lib.hid hgc
      clear hgc
      by_cases hlt : k < hs.length
      · have hkL : k < (cards hs).length := by rw [HCL.out]; exact hlt
        have HKC := Lib.hid hkL
        have HCA := Lib.hid (cards_at hs k HKC.out)
        have hkk : k < ks.length := by rw [HKL.out]; exact hlt
        obtain ⟨u, hu⟩ : ∃ u, u = textL (part hs[k].xs (i : Int) (j : Int)) := ⟨_, rfl⟩
        obtain ⟨bz, oz, hK, _, hcz⟩ := hoo.rd.at_ hlt
        have dz := hcz k _ (strs_get _ k hkk)
        have hku : ks[k] = u := by
          have h1 : ks[k] = (keysL (cards hs) (i : Int) (j : Int))[k]'(by rw [keysL_length]; exact hkL) := by simp only [HKS.out]
          rw [h1, keysL_at _ _ _ _ hkL, HCA.out, hu]
        rw [hku] at dz
        have HSB := Lib.hid (show selB s s (i : Int) (j : Int) ((cards hs)[k]'HKC.out) = !decide (bs_ u = s) by
          rw [HCA.out]
          have hlg : legalL (part hs[k].xs (i : Int) (j : Int)) = true := by rw [← HCA.out]; exact haveF_at H3.out HKC.out
          have hul : u.length = j - i := by rw [hu, textL_length, ← HCA.out]; exact (part_deck H1.out hij hjw hkL).1
          exact sel_one hu hlg hul HLS.out HCS.out)
        have hra := ra.up hbw
        have rc := hra.card_at hlt
        have hlc : hs[k].xs.length ≤ 1048576 := by have := tot_at hs k hlt; omega
        obtain ⟨b1, o1, hD, _, hcell⟩ := hra.at_ hlt
        have kc := hcell k hlt
        have i1 : (k : Int) < (hs.length : Int) := by omega
        subst hK
        subst hD
        have hsz := hbw.size
        clear hku hu hcz hcell hra hkk
        obtain ⟨us, hus⟩ : ∃ us, us = bs_ u := ⟨_, rfl⟩
        rw [← hus] at dz HSB
        clear hus
        by_cases hp : us = s
        · have HKP := Lib.hid (keep_no (p := selB s s (i : Int) (j : Int)) HKC.out (by rw [HSB.out, decide_eq_true hp]; rfl))
          have e4 := ba_list_t hp
          clear hp
          go_wp2_with fail
          refine (l02Own_any b1 (o1 + k) hs[k].a hs[k].c hs[k].xs _ kc rc hlc).mono ?_; rintro e w5 ⟨B, d, rfl, ho5, hb5⟩
          have hobN := hob.bs hb5
          have hooN := hoo.bs hb5
          have HCARD := Lib.hid (Ob.of ho5)
          have TB := bs hbw hb5
          have hbase := TB.size
          have hz5 := hb5.size
          clear ho5 hob hoo hb5 hbw rc kc dz
          go_wp2_with (at_builtin; refine wpList_ap rfl (.tmp 36) (.tmp 41) 26 rfl W.heap.size 62 j0 _ 1 24 Try.underlying26 hj hj0 hj1 hj2 rfl (by omega) _ gs.length _ (heads gs) rfl w5 hobN.row.1 1 #[.slice B hs[k].xs.length d] w5.heap.size rfl rfl rfl (one_slice _ _ _) (by omega) (by omega) (by omega) hbase ?_; intro gg cap w6 hown6 hb6 hg6 _ _)
          have HO := Lib.hid (hobN.snoc (by decide) HCARD.out (Nat.le_refl _) hsz hown6 hg6 hz5 (Nat.le_refl _))
          have HOO := Lib.hid ((hooN.kept hg6 (own_ne hooN.1 hobN.row.1 (by decide))).mono (Nat.le_refl _) (show wo.heap.size ≤ w6.heap.size from Nat.le_trans hz5 hg6.size))
          have HB := Lib.hid (TB.trans hb6)
          clear hown6 hb6 hg6 hobN hooN TB
          go_wp2
          go_roundw
          case rel =>
            have P : SeR (cards hs) (selB s s (i : Int) (j : Int)) ks (some ⟨bz, oz, none⟩) ck hs.length W w6 (.slice (some ⟨gg, 0, none⟩) (gs.length + 1) cap) (.int .i64 ((k : Int) + 1)) := ⟨k + 1, some ⟨gg, 0, none⟩, cap, gs ++ [⟨B, d, hs[k].xs⟩], by omega, by go_num, by rw [List.length_append]; rfl, by rw [List.length_append]; simp only [List.length_singleton]; omega, by rw [HKP.out, cards_append, HGC.out, HCA.out]; rfl, HO.out, HOO.out, HB.out⟩
            first | exact P | exact ⟨_, P, rfl⟩ | exact ⟨_, _, P, rfl, rfl⟩ | exact ⟨_, _, _, P, rfl, rfl, rfl⟩ | exact ⟨_, _, _, _, P, rfl, rfl, rfl, rfl⟩ | exact ⟨_, _, _, _, _, P, rfl, rfl, rfl, rfl, rfl⟩ | exact ⟨_, _, _, _, _, _, P, rfl, rfl, rfl, rfl, rfl, rfl⟩ | exact ⟨_, _, _, _, _, _, _, P, rfl, rfl, rfl, rfl, rfl, rfl, rfl⟩ | exact ⟨_, _, _, _, _, _, _, _, P, rfl, rfl, rfl, rfl, rfl, rfl, rfl, rfl⟩
          case measure => simp [intOf]; omega
        · have HKP := Lib.hid (keep_yes (p := selB s s (i : Int) (j : Int)) HKC.out (by rw [HSB.out, decide_eq_false hp]; rfl))
          have e4 := ba_list_f hp
          clear hp
          go_wp2
          go_roundw
          case rel =>
            have P : SeR (cards hs) (selB s s (i : Int) (j : Int)) ks (some ⟨bz, oz, none⟩) ck hs.length W wo (.slice G gs.length cg) (.int .i64 ((k : Int) + 1)) := ⟨k + 1, G, cg, gs, by omega, by go_num, rfl, by omega, by rw [HKP.out, HGC.out], hob, hoo, hbw⟩
            first | exact P | exact ⟨_, P, rfl⟩ | exact ⟨_, _, P, rfl, rfl⟩ | exact ⟨_, _, _, P, rfl, rfl, rfl⟩ | exact ⟨_, _, _, _, P, rfl, rfl, rfl, rfl⟩ | exact ⟨_, _, _, _, _, P, rfl, rfl, rfl, rfl, rfl⟩ | exact ⟨_, _, _, _, _, _, P, rfl, rfl, rfl, rfl, rfl, rfl⟩ | exact ⟨_, _, _, _, _, _, _, P, rfl, rfl, rfl, rfl, rfl, rfl, rfl⟩ | exact ⟨_, _, _, _, _, _, _, _, P, rfl, rfl, rfl, rfl, rfl, rfl, rfl, rfl⟩
          case measure => simp [intOf]; omega
      · obtain rfl : k = hs.length := by omega
        have HK2 := Lib.hid (show cards gs = selRes (cards hs) (i : Int) (j : Int) s s by rw [HGC.out, HR.out, List.take_of_length_le (by rw [HCL.out]; omega)])
        go_wp2
        go_ret2
        exact ⟨G, cg, gs, ret_dd HZ.out.symm, HK2.out, hob.mono T0.size (Nat.le_refl _), bs T0 hbw⟩
  · have HR := Lib.hid (selRes_1 (s := s) (t := s) (fun h => hz ((colC_twice _ _ _ _).symm.trans h)))
    have e1 := bne_t hz
    clear hz
    go_enter Try.func16, Try.ntmps16
    go_wp2_with fail
    rw [← HW.out]
    refine HCO.out.mono ?_; rintro e w1 ⟨K, ck, rfl, hown0, hb1⟩
    go_wp2
    go_ret2
    exact ⟨none, 0, [], ret_dd rfl, HR.out.symm, ObD.nil _ _ _ _ _, bs T0 hb1⟩

end Go.Proofs.Ytabdlbaonjhnnaa
