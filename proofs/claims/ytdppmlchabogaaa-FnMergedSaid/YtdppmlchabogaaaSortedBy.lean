/- SortedBy; in the program and in the reference. -/
import Derived.Test.YtdppmlchabogaaaOrderBy
import Derived.Test.YtdppmlchabogaaaFirst
namespace Go.Proofs.Ytdppmlchabogaaa
open Go.RowKit

theorem sortedL_pick (L : List (List Int)) (a b : Int) : sortedL L a b = pickL L (ordL L a b) := rfl
def sbRes (L : List (List Int)) (a b : Int) : List (List Int) := if codeK L a b = 0 then sortedL L a b else []
theorem sbRes_0 {L : List (List Int)} {a b : Int} (h : codeK L a b = 0) : sbRes L a b = sortedL L a b := by unfold sbRes; rw [if_pos h]
theorem sbRes_1 {L : List (List Int)} {a b : Int} (h : codeK L a b ≠ 0) : sbRes L a b = [] := by unfold sbRes; rw [if_neg h]
theorem sbRes_bound (L : List (List Int)) (a b : Int) {gs : List Hd} (h : cards gs = sbRes L a b) : gs.length + tot gs ≤ 840 := by
  by_cases hz : codeK L a b = 0
  · rw [sbRes_0 hz] at h
    refine sub_bound (fun x hx => (sortedL_perm L a b).mem_iff.1 hx) ?_ (codeK_zero hz).1 h
    rw [sortedL_length]
    exact deckOk_len (codeK_zero hz).1
  · rw [sbRes_1 hz] at h
    have : gs = [] := by
      cases gs with
      | nil => rfl
      | cons x gs => simp [cards] at h
    subst this
    simp [tot]

set_option maxRecDepth 20000 in
set_option maxHeartbeats 4000000 in
theorem sortedBy_any (D : Option Addr) (c : Nat) (hs : List Hd) (i j : Nat) (w : World) (ha : RdD w w.heap.size D hs) (hok : deckOk (cards hs) = true) (hij : i < j) (hj : j ≤ deckW (cards hs)) (hl : hs.length + tot hs ≤ 1048576) :
    Calls Try.prog 117 #[.slice D hs.length c, .agg #[.int .i64 (i : Int), .int .i64 (j : Int)]] w fun e w' => ∃ E ce gs, e = .returned (.slice E gs.length ce) ∧ cards gs = sortedL (cards hs) (i : Int) (j : Int) ∧ ObD w' w.heap.size w'.heap.size 37 2 E ce gs ∧ Below w.heap.size w w' := by
  obtain ⟨j0, hj0, hj0', hj1, hj2⟩ := info_parts info_cardD
  obtain ⟨w1, hw1⟩ : ∃ w1, w1 = w.alloc (.cells #[.int .i64 (i : Int), .int .i64 (j : Int)] 27) := ⟨_, rfl⟩
  have T1 : Below w.heap.size w w1 := by rw [hw1]; exact ba (b0 w) _
  have rbase : RdD w1 w1.heap.size D hs := by rw [hw1]; exact ha.a1 _
  have k2 : w1.cell? ⟨w.heap.size, 0, none⟩ = some (.int .i64 (i : Int)) := by rw [hw1]; exact cell_new rfl rfl
  have k3 : w1.cell? ⟨w.heap.size, 1, none⟩ = some (.int .i64 (j : Int)) := by rw [hw1]; exact cell_new rfl rfl
  have HW := Lib.hid hw1
  have HWS := Lib.hid (show w1.heap.size = w.heap.size + 1 by rw [hw1]; simp)
  have HCL := Lib.hid (cards_length hs)
  have h40 : hs.length ≤ 40 := by have := deckOk_len hok; rwa [cards_length] at this
  have HMEM := Lib.hid (fun z (hz : z ∈ ordL (cards hs) (i : Int) (j : Int)) => ordL_mem hz)
  have HCO := Lib.hid (orderBy_any D c hs i j)
  obtain ⟨zs, hzs⟩ : ∃ zs, zs = ordL (cards hs) (i : Int) (j : Int) := ⟨_, rfl⟩
  have HZL := Lib.hid (show zs.length = hs.length by rw [hzs, ordL_length, cards_length])
  have HR := Lib.hid (show sortedL (cards hs) (i : Int) (j : Int) = pickL (cards hs) zs by rw [hzs]; rfl)
  rw [← hzs] at HMEM HCO
  have H1 := Lib.hid hok
  have r1 := rbase.a1 (.cells #[] 37)
  have k4 := cell_alloc k2 (.cells #[] 37)
  have k5 := cell_alloc k3 (.cells #[] 37)
  clear hw1 hzs hok ha k2 k3
  go_enter Try.func117, Try.ntmps117
  go_wp2_with fail
  rw [← HW.out]
  refine (HCO.out _ r1 H1.out hij hj hl).mono ?_; rintro e w2 ⟨G0, cg0, rfl, hownZ, hb2⟩
  rw [← HZL.out] at hownZ
  have hrow0 : w2.ownsRow w1.heap.size 37 1 (.slice (some ⟨w1.heap.size, 0, none⟩) 0 0) 0 [] := own_bs (own_lit w1 #[] 0 rfl (Nat.le_refl _) (by omega) rfl) hb2
  have T2 : Below w1.heap.size w1 w2 := bs (ba (b0 w1) (.cells #[] 37)) hb2
  have ho2 : Ob w2 w1.heap.size w2.heap.size 2 1 (.slice G0 zs.length cg0) zs.length (ints zs) := (Ob.of hownZ).mono (by simp) (Nat.le_refl _)
  have hzn : zs.length ≤ 40 := by rw [HZL.out]; exact h40
  clear hb2 r1 k4 k5 hownZ
  go_wp2
  go_loopw [5, 13] (fun o q wr => FgR (cards hs) zs G0 cg0 w1 wr o q) (fun _ q _ => zs.length - (intOf q).toNat)
  case atStart => exact ⟨0, _, _, [], Nat.zero_le _, rfl, by rw [HWS.out]; rfl, Nat.le_refl _, rfl, ObD.empty (Ob.of hrow0), ho2, T2⟩
  case round =>
    obtain ⟨wo, rfl⟩ : ∃ wo : World, wo = wr := ⟨_, rfl⟩
    obtain ⟨k, G, cg, gs, hk, rfl, rfl, hgk, hgc, hob, hoo, hbw⟩ := hrel
    have HGC := Lib.hid hgc
    clear hgc
    by_cases hlt : k < zs.length
    · obtain ⟨m, hm, hml, hgd⟩ := pick_at HMEM.out hlt
      have HS := Lib.hid (show pickL (cards hs) (zs.take (k + 1)) = pickL (cards hs) (zs.take k) ++ [hs[m].xs] by rw [pickL_succ _ _ _ hlt, hgd])
      have hra := rbase.up hbw
      obtain ⟨bz, oz, hG0, _, hcz⟩ := hoo.rd.at_ hlt
      have dz := hcz k _ (ints_get _ k hlt)
      rw [hm] at dz
      have rc := hra.card_at hml
      have hlc : hs[m].xs.length ≤ 1048576 := by have := tot_at hs m hml; omega
      obtain ⟨b1, o1, hD, _, hcell⟩ := hra.at_ hml
      have kc := hcell m hml
      have i1 : (k : Int) < (hs.length : Int) := by have := HZL.out; omega
      have i2 : (m : Int) < (hs.length : Int) := by omega
      subst hG0
      subst hD
      have hsz := hbw.size
      clear hm hgd hcz hcell hra
      go_wp2_with fail
      refine (newCard_any _ _ hs[m].xs _ rc hlc).mono ?_; rintro e w5 ⟨B, d, rfl, ho5, hb5⟩
      have hobN := hob.bs hb5
      have hooN := hoo.bs hb5
      have HCARD := Lib.hid (Ob.of ho5)
      have TB := bs hbw hb5
      have hbase := TB.size
      have hz5 := hb5.size
      clear ho5 hob hoo hb5 hbw rc kc dz
      go_wp2_with (at_builtin; refine wpList_ap rfl (.tmp 17) (.tmp 23) 24 rfl w1.heap.size 37 j0 _ 1 24 Try.underlying24 hj0 hj0' hj1 hj2 rfl (by omega) _ gs.length _ (heads gs) rfl w5 hobN.row.1 1 #[.slice B hs[m].xs.length d] w5.heap.size rfl rfl rfl (one_slice _ _ _) (by omega) (by omega) (by omega) hbase ?_; intro gg cap w6 hown6 hb6 hg6 _ _)
      have HO := Lib.hid (hobN.snoc (by decide) HCARD.out (Nat.le_refl _) hsz hown6 hg6 hz5 (Nat.le_refl _))
      have HOO := Lib.hid ((hooN.kept hg6 (own_ne hooN.1 hobN.row.1 (by decide))).mono (Nat.le_refl _) (show wo.heap.size ≤ w6.heap.size from Nat.le_trans hz5 hg6.size))
      have HB := Lib.hid (TB.trans hb6)
      clear hown6 hb6 hg6 hobN hooN TB
      go_wp2
      go_roundw
      case rel =>
        have P : FgR (cards hs) zs (some ⟨bz, oz, none⟩) cg0 w1 w6 (.slice (some ⟨gg, 0, none⟩) (gs.length + 1) cap) (.int .i64 ((k : Int) + 1)) := ⟨k + 1, some ⟨gg, 0, none⟩, cap, gs ++ [⟨B, d, hs[m].xs⟩], by omega, by go_num, by rw [List.length_append]; rfl, by rw [List.length_append]; simp only [List.length_singleton]; omega, by rw [HS.out, cards_append, HGC.out]; rfl, HO.out, HOO.out, HB.out⟩
        first | exact P | exact ⟨_, P, rfl⟩ | exact ⟨_, _, P, rfl, rfl⟩ | exact ⟨_, _, _, P, rfl, rfl, rfl⟩ | exact ⟨_, _, _, _, P, rfl, rfl, rfl, rfl⟩ | exact ⟨_, _, _, _, _, P, rfl, rfl, rfl, rfl, rfl⟩ | exact ⟨_, _, _, _, _, _, P, rfl, rfl, rfl, rfl, rfl, rfl⟩ | exact ⟨_, _, _, _, _, _, _, P, rfl, rfl, rfl, rfl, rfl, rfl, rfl⟩ | exact ⟨_, _, _, _, _, _, _, _, P, rfl, rfl, rfl, rfl, rfl, rfl, rfl, rfl⟩
      case measure => (simp [intOf]; try omega)
    · obtain rfl : k = zs.length := by omega
      have HK := Lib.hid (show cards gs = sortedL (cards hs) (i : Int) (j : Int) by rw [HGC.out, HR.out, List.take_of_length_le (Nat.le_refl _)])
      have i3 : ¬ (zs.length : Int) < (hs.length : Int) := by have := HZL.out; omega
      go_wp2
      go_ret
      exact ⟨G, cg, gs, rfl, HK.out, hob.mono T1.size (Nat.le_refl _), bs T1 hbw⟩

set_option maxHeartbeats 4000000 in
theorem SortedBy_any (D : Option Addr) (c : Nat) (hs : List Hd) (L : List (List Int)) (a b : Int) (w : World) (ha : RdD w w.heap.size D hs) (hL : cards hs = L) (hl : hs.length + tot hs ≤ 1048576) (_hc : hs.length ≤ c) :
    Calls Try.prog 17 #[.slice D hs.length c, .agg #[.int .i64 a, .int .i64 b]] w fun e w' => ∃ E ce gs, e = .returned (.tuple #[.slice E gs.length ce, .int .i64 (codeK L a b)]) ∧ cards gs = sbRes L a b ∧ ObD w' w.heap.size w'.heap.size 37 2 E ce gs ∧ Below w.heap.size w w' := by
  subst hL
  have T0 : Below w.heap.size w (w.alloc (.cells #[.int .i64 a, .int .i64 b] 27)) := ba (b0 w) _
  have ra := ha.a1 (.cells #[.int .i64 a, .int .i64 b] 27)
  by_cases hz : codeK (cards hs) a b = 0
  · obtain ⟨h1, h2, h3⟩ := codeK_zero hz
    obtain ⟨i, j, rfl, rfl, hij, hjw⟩ := fieldOk_nat h2
    have HZ := Lib.hid hz
    have H1 := Lib.hid h1
    have HR := Lib.hid (sbRes_0 hz)
    clear hz h1 h2 h3
    go_enter Try.func17, Try.ntmps17
    go_wp2_with fail
    refine (sortCode_any _ _ hs _ _ _ ra hl).mono ?_; rintro e w1 ⟨rfl, hb1⟩
    have k2 : w1.cell? ⟨w.heap.size, 0, none⟩ = some (.int .i64 (i : Int)) := cell_later hb1 (cell_new rfl rfl)
    have k3 : w1.cell? ⟨w.heap.size, 1, none⟩ = some (.int .i64 (j : Int)) := cell_later hb1 (cell_new rfl rfl)
    have e0 : codeK (cards hs) (i : Int) (j : Int) = 0 := HZ.out
    have T1 := bs T0 hb1
    go_wp2_with fail
    refine (sortedBy_any _ _ hs i j _ (ra.up hb1) H1.out hij hjw hl).mono ?_; rintro e w2 ⟨E, ce, gs, rfl, hcg, hob, hb2⟩
    have HCG := Lib.hid hcg
    clear e0 hcg
    go_wp2
    go_ret2
    exact ⟨E, ce, gs, ret_dd HZ.out.symm, by rw [HCG.out, HR.out], hob.mono T1.size (Nat.le_refl _), bs T1 hb2⟩
  · have HR := Lib.hid (sbRes_1 hz)
    go_enter Try.func17, Try.ntmps17
    go_wp2_with fail
    refine (sortCode_any _ _ hs _ _ _ ra hl).mono ?_; rintro e w1 ⟨rfl, hb1⟩
    go_wp2
    go_ret2
    exact ⟨none, 0, [], ret_dd rfl, HR.out.symm, ObD.nil _ _ _ _ _, bs T0 hb1⟩

set_option maxRecDepth 20000 in
set_option maxHeartbeats 4000000 in
theorem spSortedBy_any (D : Option Addr) (c : Nat) (hs : List Hd) (L : List (List Int)) (a b : Int) (w : World) (ha : RdD w w.heap.size D hs) (hL : cards hs = L) (hl : hs.length + tot hs ≤ 1048576) (_hc : hs.length ≤ c) :
    Calls Try.prog 23 #[.slice D hs.length c, .agg #[.int .i64 a, .int .i64 b]] w fun e w' => ∃ E ce gs, e = .returned (.tuple #[.slice E gs.length ce, .int .i64 (codeK L a b)]) ∧ cards gs = sbRes L a b ∧ ObD w' w.heap.size w'.heap.size 37 2 E ce gs ∧ Below w.heap.size w w' := by
  obtain ⟨j0, hj, hj0, hj1, hj2⟩ := info_parts info_cardD
  subst hL
  have T0 : Below w.heap.size w (w.alloc (.cells #[.int .i64 a, .int .i64 b] 27)) := ba (b0 w) _
  have ra := ha.a1 (.cells #[.int .i64 a, .int .i64 b] 27)
  have HCL := Lib.hid (cards_length hs)
  by_cases hz : codeK (cards hs) a b = 0
  · obtain ⟨h1, h2, h3⟩ := codeK_zero hz
    obtain ⟨i, j, rfl, rfl, hij, hjw⟩ := fieldOk_nat h2
    have HZ := Lib.hid hz
    have H1 := Lib.hid h1
    have H3 := Lib.hid h3
    have h40 : (cards hs).length ≤ 40 := deckOk_len h1
    have HK := Lib.hid (keysRes_0 hz)
    have HKL := Lib.hid (show (keysRes (cards hs) (i : Int) (j : Int)).length = (cards hs).length by rw [HK.out, keysL_length])
    obtain ⟨n, hn⟩ : ∃ n, n = (keysRes (cards hs) (i : Int) (j : Int)).length := ⟨_, rfl⟩
    have HN := Lib.hid (show (cards hs).length = n by rw [hn, HKL.out])
    have hn40 : n ≤ 40 := by rw [← HN.out]; exact h40
    have HMEM := Lib.hid (fun z (hz : z ∈ ordL (cards hs) (i : Int) (j : Int)) => ordL_mem hz)
    have HCO := Lib.hid (fun K ck w => l07Places_any K ck n (cards hs) i j w HN.out H1.out hij hjw H3.out)
    have HCK := Lib.hid (l07Keys_any D c hs (i : Int) (j : Int))
    obtain ⟨zs, hzs⟩ : ∃ zs, zs = ordL (cards hs) (i : Int) (j : Int) := ⟨_, rfl⟩
    have HZL := Lib.hid (show zs.length = n by rw [hzs, ordL_length, HN.out])
    have HR := Lib.hid (show sbRes (cards hs) (i : Int) (j : Int) = pickL (cards hs) zs by rw [sbRes_0 hz, hzs]; rfl)
    have HN2 := Lib.hid hn
    rw [← hzs] at HMEM HCO
    clear hz h1 h2 h3 hzs hn
    go_enter Try.func23, Try.ntmps23
    go_wp2_with fail
    refine (HCK.out _ ra hl).mono ?_; rintro e w1 ⟨K, ck, rfl, hown0, hb1⟩
    have e0 : codeK (cards hs) (i : Int) (j : Int) = 0 := HZ.out
    have hrd := (Rd.own hown0)
    rw [← HN2.out, HK.out] at hrd
    have HRD := Lib.hid hrd
    rw [← HN2.out]
    have T1 := bs T0 hb1
    have rbase := ra.up hb1
    clear hb1 ra ha hown0 hrd
    go_wp2_with fail
    refine (HCO.out _ _ _ HRD.out).mono ?_; rintro e w2 ⟨G0, cg0, rfl, hownZ, hb2⟩
    rw [← HZL.out] at hownZ ⊢
    have hrow0 : (w2.alloc (.cells #[] 37)).ownsRow w1.heap.size 37 1 (.slice (some ⟨w2.heap.size, 0, none⟩) 0 0) 0 [] := own_base (own_lit w2 #[] 0 rfl (Nat.le_refl _) (by omega) rfl) hb2.size
    have T2 : Below w1.heap.size w1 (w2.alloc (.cells #[] 37)) := ba hb2 _
    have ho2 : Ob (w2.alloc (.cells #[] 37)) w1.heap.size (w2.alloc (.cells #[] 37)).heap.size 2 1 (.slice G0 zs.length cg0) zs.length (ints zs) := ((Ob.of hownZ).alloc (.cells #[] 37)).mono (Nat.le_refl _) (by simp)
    have hzn : zs.length ≤ 40 := by rw [HZL.out]; exact hn40
    clear e0 hb2 hownZ
    go_wp2
    go_loopw [9, 10] (fun o q wr => FgR (cards hs) zs G0 cg0 w1 wr o q) (fun _ q _ => zs.length - (intOf q).toNat)
    case atStart => exact ⟨0, _, _, [], Nat.zero_le _, rfl, rfl, Nat.le_refl _, rfl, ObD.empty (Ob.of hrow0), ho2, T2⟩
    case round =>
      obtain ⟨wo, rfl⟩ : ∃ wo : World, wo = wr := ⟨_, rfl⟩
      obtain ⟨k, G, cg, gs, hk, rfl, rfl, hgk, hgc, hob, hoo, hbw⟩ := hrel
      have HGC := Lib.hid hgc
      clear hgc
      by_cases hlt : k < zs.length
      · obtain ⟨m, hm, hml, hgd⟩ := pick_at HMEM.out hlt
        have HS := Lib.hid (show pickL (cards hs) (zs.take (k + 1)) = pickL (cards hs) (zs.take k) ++ [hs[m].xs] by rw [pickL_succ _ _ _ hlt, hgd])
        have hra := rbase.up hbw
        obtain ⟨bz, oz, hG0, _, hcz⟩ := hoo.rd.at_ hlt
        have dz := hcz k _ (ints_get _ k hlt)
        rw [hm] at dz
        have rc := hra.card_at hml
        have hlc : hs[m].xs.length ≤ 1048576 := by have := tot_at hs m hml; omega
        obtain ⟨b1, o1, hD, _, hcell⟩ := hra.at_ hml
        have kc := hcell m hml
        have i1 : (k : Int) < (zs.length : Int) := by omega
        have i2 : (m : Int) < (hs.length : Int) := by omega
        subst hG0
        subst hD
        have hsz := hbw.size
        clear hm hgd hcz hcell hra
        go_wp2_with fail
        refine (l02Own_any b1 (o1 + m) hs[m].a hs[m].c hs[m].xs _ kc rc hlc).mono ?_; rintro e w5 ⟨B, d, rfl, ho5, hb5⟩
        have hobN := hob.bs hb5
        have hooN := hoo.bs hb5
        have HCARD := Lib.hid (Ob.of ho5)
        have TB := bs hbw hb5
        have hbase := TB.size
        have hz5 := hb5.size
        clear ho5 hob hoo hb5 hbw rc kc dz
        go_wp2_with (at_builtin; refine wpList_ap rfl (.tmp 29) (.tmp 37) 24 rfl w1.heap.size 37 j0 _ 1 24 Try.underlying24 hj hj0 hj1 hj2 rfl (by omega) _ gs.length _ (heads gs) rfl w5 hobN.row.1 1 #[.slice B hs[m].xs.length d] w5.heap.size rfl rfl rfl (one_slice _ _ _) (by omega) (by omega) (by omega) hbase ?_; intro gg cap w6 hown6 hb6 hg6 _ _)
        have HO := Lib.hid (hobN.snoc (by decide) HCARD.out (Nat.le_refl _) hsz hown6 hg6 hz5 (Nat.le_refl _))
        have HOO := Lib.hid ((hooN.kept hg6 (own_ne hooN.1 hobN.row.1 (by decide))).mono (Nat.le_refl _) (show wo.heap.size ≤ w6.heap.size from Nat.le_trans hz5 hg6.size))
        have HB := Lib.hid (TB.trans hb6)
        clear hown6 hb6 hg6 hobN hooN TB
        go_wp2
        go_roundw
        case rel =>
          have P : FgR (cards hs) zs (some ⟨bz, oz, none⟩) cg0 w1 w6 (.slice (some ⟨gg, 0, none⟩) (gs.length + 1) cap) (.int .i64 ((k : Int) + 1)) := ⟨k + 1, some ⟨gg, 0, none⟩, cap, gs ++ [⟨B, d, hs[m].xs⟩], by omega, by go_num, by rw [List.length_append]; rfl, by rw [List.length_append]; simp only [List.length_singleton]; omega, by rw [HS.out, cards_append, HGC.out]; rfl, HO.out, HOO.out, HB.out⟩
          first | exact P | exact ⟨_, P, rfl⟩ | exact ⟨_, _, P, rfl, rfl⟩ | exact ⟨_, _, _, P, rfl, rfl, rfl⟩ | exact ⟨_, _, _, _, P, rfl, rfl, rfl, rfl⟩ | exact ⟨_, _, _, _, _, P, rfl, rfl, rfl, rfl, rfl⟩ | exact ⟨_, _, _, _, _, _, P, rfl, rfl, rfl, rfl, rfl, rfl⟩ | exact ⟨_, _, _, _, _, _, _, P, rfl, rfl, rfl, rfl, rfl, rfl, rfl⟩ | exact ⟨_, _, _, _, _, _, _, _, P, rfl, rfl, rfl, rfl, rfl, rfl, rfl, rfl⟩
        case measure => (simp [intOf]; try omega)
      · obtain rfl : k = zs.length := by omega
        have HKK := Lib.hid (show cards gs = sbRes (cards hs) (i : Int) (j : Int) by rw [HGC.out, HR.out, List.take_of_length_le (Nat.le_refl _)])
        go_wp2
        go_ret2
        exact ⟨G, cg, gs, ret_dd HZ.out.symm, HKK.out, hob.mono T1.size (Nat.le_refl _), bs T1 hbw⟩
  · have HR := Lib.hid (sbRes_1 hz)
    go_enter Try.func23, Try.ntmps23
    go_wp2_with fail
    refine (l07Keys_any _ _ hs _ _ _ ra hl).mono ?_; rintro e w1 ⟨K, ck, rfl, hown, hb1⟩
    go_wp2
    go_ret2
    exact ⟨none, 0, [], ret_dd rfl, HR.out.symm, ObD.nil _ _ _ _ _, bs T0 hb1⟩
end Go.Proofs.Ytdppmlchabogaaa
