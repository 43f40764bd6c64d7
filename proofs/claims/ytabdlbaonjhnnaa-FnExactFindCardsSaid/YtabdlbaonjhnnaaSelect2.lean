/- SelectBetween, SelectEqual; in the reference; SelectEqual in the program. -/
import Derived.Test.YtabdlbaonjhnnaaSelect
import Derived.Test.YtabdlbaonjhnnaaGroups
namespace Go.Proofs.Ytabdlbaonjhnnaa
open Go.RowKit

/-- Behind k cards. -/
def SeR (L : List (List Int)) (pred : List Int → Bool) (ks : List (List UInt8)) (K : Option Addr) (ck n : Nat) (w wr : World) (o q : Value) : Prop := ∃ (k : Nat) (G : Option Addr) (cg : Nat) (gs : List Hd), k ≤ n ∧ q = .int .i64 k ∧ o = .slice G gs.length cg ∧ gs.length ≤ k ∧ cards gs = keep pred (L.take k) ∧
  ObD wr w.heap.size wr.heap.size 62 2 G cg gs ∧ Ob wr w.heap.size wr.heap.size 9 1 (.slice K n ck) n (strs ks) ∧ Below w.heap.size w wr

set_option maxRecDepth 100000 in
set_option maxHeartbeats 8000000 in
theorem spSelectBetween_any (D : Option Addr) (c : Nat) (hs : List Hd) (L : List (List Int)) (a b : Int) (s t : ByteArray) (w : World) (ha : RdD w w.heap.size D hs) (hL : cards hs = L) (hl : hs.length + tot hs ≤ 1048576) (_hc : hs.length ≤ c) (hq1 : s.size ≤ 1048576) (hq2 : t.size ≤ 1048576) :
    Calls Try.prog 23 #[.slice D hs.length c, .agg #[.int .i64 a, .int .i64 b], .string s, .string t] w fun e w' => ∃ E ce gs, e = .returned (.tuple #[.slice E gs.length ce, .int .i64 (colC [L] true [s, t] a b)]) ∧ cards gs = selRes L a b s t ∧ ObD w' w.heap.size w'.heap.size 62 2 E ce gs ∧ Below w.heap.size w w' := by
  obtain ⟨j0, hj, hj0, hj1, hj2⟩ := info_parts info_cardD
  subst hL
  obtain ⟨W, hW⟩ : ∃ W, W = (w.alloc (.cells #[.int .i64 a, .int .i64 b] 30)).alloc (.cells #[.string s, .string t] 9) := ⟨_, rfl⟩
  have T0 : Below w.heap.size w W := by rw [hW]; exact ba (ba (b0 w) _) _
  have ra : RdD W W.heap.size D hs := by rw [hW]; exact (ha.a1 _).a1 _
  have k5 : W.cell? ⟨w.heap.size + 1, 0, none⟩ = some (.string s) := by rw [hW]; exact cell_new (by simp) rfl
  have k6 : W.cell? ⟨w.heap.size + 1, 1, none⟩ = some (.string t) := by rw [hW]; exact cell_new (by simp) rfl
  have rts := rd_str2 k5 k6
  have HW := Lib.hid hW
  have hts : ∀ k (h : k < [s, t].length), [s, t][k].size ≤ 1048576 := by
    intro k h
    match k, h with
    | 0, _ => exact hq1
    | 1, _ => exact hq2
  have HCO := Lib.hid (l09Ask_any D c hs (some ⟨w.heap.size + 1, 0, none⟩) 2 [s, t] a b W ra hl rts (by simp) hts)
  have HCL := Lib.hid (cards_length hs)
  clear hW k5 k6 rts ha hts
  by_cases hz : colC [cards hs] true [s, t] a b = 0
  · obtain ⟨hk, hlen, hcha⟩ := colC_zero hz
    obtain ⟨h1, h2, h3⟩ := codeK_zero hk
    obtain ⟨i, j, rfl, rfl, hij, hjw⟩ := fieldOk_nat h2
    have h40 : hs.length ≤ 40 := by have := deckOk_len h1; rwa [cards_length] at this
    have hj20 : j ≤ 20 := Nat.le_trans hjw (deckOk_wid h1).1
    have HZ := Lib.hid hz
    have H1 := Lib.hid h1
    have H3 := Lib.hid h3
    have HR := Lib.hid (selRes_0 hz)
    simp only [List.all_cons, List.all_nil, Bool.and_true, Bool.and_eq_true] at hlen hcha
    have HLS := Lib.hid (lenB_nat hij hlen.1)
    have HLT := Lib.hid (lenB_nat hij hlen.2)
    have HAR := Lib.hid (askRes_0 hz)
    obtain ⟨ks, hks⟩ : ∃ ks, ks = askRes (cards hs) [s, t] (i : Int) (j : Int) := ⟨_, rfl⟩
    have HKS := Lib.hid (show ks = keysL (cards hs) (i : Int) (j : Int) by rw [hks, HAR.out])
    have HKL := Lib.hid (show ks.length = hs.length by rw [HKS.out, keysL_length, HCL.out])
    rw [← hks] at HCO
    clear hz hk h1 h2 h3 hlen hcha hks
    go_enter Try.func23, Try.ntmps23
    go_wp2_with fail
    rw [← HW.out]
    refine HCO.out.mono ?_; rintro e w1 ⟨K, ck, rfl, hown0, hb1⟩
    rw [HKL.out] at hown0 ⊢
    have e0 : colC [cards hs] true [s, t] (i : Int) (j : Int) = 0 := HZ.out
    have T2 : Below W.heap.size W (w1.alloc (.cells #[] 62)) := ba hb1 _
    have ho2 : Ob (w1.alloc (.cells #[] 62)) W.heap.size (w1.alloc (.cells #[] 62)).heap.size 9 1 (.slice K hs.length ck) hs.length (strs ks) := ((Ob.of hown0).alloc _).mono (Nat.le_refl _) (by simp)
    have hrow0 : (w1.alloc (.cells #[] 62)).ownsRow W.heap.size 62 1 (.slice (some ⟨w1.heap.size, 0, none⟩) 0 0) 0 [] := own_base (own_lit w1 #[] 0 rfl (Nat.le_refl _) (by omega) rfl) hb1.size
    clear hown0 hb1
    go_wp2
    clear e0
    go_loopw [12, 13] (fun o q wr => SeR (cards hs) (selB s t (i : Int) (j : Int)) ks K ck hs.length W wr o q) (fun _ q _ => hs.length - (intOf q).toNat)
    case atStart => exact ⟨0, _, _, [], Nat.zero_le _, rfl, rfl, Nat.le_refl _, rfl, ObD.empty (Ob.of hrow0), ho2, T2⟩
    case round =>
      obtain ⟨wo, rfl⟩ : ∃ wo : World, wo = wr := ⟨_, rfl⟩
      obtain ⟨k, G, cg, gs, hk, rfl, rfl, hgk, hgc, hob, hoo, hbw⟩ := hrel
      have HGC := Lib.hid hgc
      clear hgc
      by_cases hlt : k < hs.length
      · have hkL : k < (cards hs).length := by rw [HCL.out]; exact hlt
        have HKC := Lib.hid hkL
        have HCA := Lib.hid (cards_at hs k HKC.out)
        have hkk : k < ks.length := by rw [HKL.out]; exact hlt
        obtain ⟨u, hu⟩ : ∃ u, u = textL (part hs[k].xs (i : Int) (j : Int)) := ⟨_, rfl⟩
        obtain ⟨bz, oz, hK, _, hcz⟩ := hoo.rd.at_ hlt
        have dz := hcz k _ (strs_get _ k hkk)
        have hku : ks[k] = u := by
          have h1 : ks[k] = (keysL (cards hs) (i : Int) (j : Int))[k]'(by rw [keysL_length]; exact hkL) := by simp only [HKS.out]
          rw [h1, keysL_at _ _ _ _ hkL, HCA.out, hu]
        rw [hku] at dz
        obtain ⟨y, hy⟩ : ∃ y, y = cmpT u (byt s) := ⟨_, rfl⟩
        obtain ⟨z, hz⟩ : ∃ z, z = cmpT u (byt t) := ⟨_, rfl⟩
        have HSB := Lib.hid (show selB s t (i : Int) (j : Int) ((cards hs)[k]'HKC.out) = (decide (y < 0) || decide (0 < z)) by rw [HCA.out, hy, hz, hu]; rfl)
        have hul : u.length = j - i := by rw [hu, textL_length, ← HCA.out]; exact (part_deck H1.out hij hjw hkL).1
        have HUS := Lib.hid (show (bs_ u).size = s.size by rw [HLS.out, ← hul]; rfl)
        have HUT := Lib.hid (show (bs_ u).size = t.size by rw [HLT.out, ← hul]; rfl)
        have HUL := Lib.hid (show (bs_ u).size ≤ 1048576 by show u.length ≤ _; omega)
        have HC1 := Lib.hid (show ∀ w : World, Calls Try.prog 73 #[.string (bs_ u), .string s] w fun e w' => e = .returned (.int .i64 y) ∧ w = w' from fun w => by rw [hy]; exact l03Compare_any (bs_ u) s w HUS.out HUL.out)
        have HC2 := Lib.hid (show ∀ w : World, Calls Try.prog 73 #[.string (bs_ u), .string t] w fun e w' => e = .returned (.int .i64 z) ∧ w = w' from fun w => by rw [hz]; exact l03Compare_any (bs_ u) t w HUT.out HUL.out)
        have hra := ra.up hbw
        have rc := hra.card_at hlt
        have hlc : hs[k].xs.length ≤ 1048576 := by have := tot_at hs k hlt; omega
        obtain ⟨b1, o1, hD, _, hcell⟩ := hra.at_ hlt
        have kc := hcell k hlt
        have i1 : (k : Int) < (hs.length : Int) := by omega
        subst hK
        subst hD
        have hsz := hbw.size
        clear hku hy hz hu hul hcz hcell hra hkk
        by_cases hp : 0 ≤ y
        · by_cases hp2 : z ≤ 0
          · have HKP := Lib.hid (keep_no (p := selB s t (i : Int) (j : Int)) HKC.out (by rw [HSB.out, decide_eq_false (by omega), decide_eq_false (by omega)]; rfl))
            go_wp2_with fail
            refine (HC1.out _).mono ?_; rintro e w4 ⟨rfl, rfl⟩
            go_wp2_with fail
            refine (HC2.out _).mono ?_; rintro e w4 ⟨rfl, rfl⟩
            go_wp2_with fail
            refine (l02Own_any b1 (o1 + k) hs[k].a hs[k].c hs[k].xs _ kc rc hlc).mono ?_; rintro e w5 ⟨B, d, rfl, ho5, hb5⟩
            have hobN := hob.bs hb5
            have hooN := hoo.bs hb5
            have HCARD := Lib.hid (Ob.of ho5)
            have TB := bs hbw hb5
            have hbase := TB.size
            have hz5 := hb5.size
            clear ho5 hob hoo hb5 hbw rc kc dz
            go_wp2_with (at_builtin; refine wpList_ap rfl (.tmp 49) (.tmp 54) 26 rfl W.heap.size 62 j0 _ 1 24 Try.underlying26 hj hj0 hj1 hj2 rfl (by omega) _ gs.length _ (heads gs) rfl w5 hobN.row.1 1 #[.slice B hs[k].xs.length d] w5.heap.size rfl rfl rfl (one_slice _ _ _) (by omega) (by omega) (by omega) hbase ?_; intro gg cap w6 hown6 hb6 hg6 _ _)
            have HO := Lib.hid (hobN.snoc (by decide) HCARD.out (Nat.le_refl _) hsz hown6 hg6 hz5 (Nat.le_refl _))
            have HOO := Lib.hid ((hooN.kept hg6 (own_ne hooN.1 hobN.row.1 (by decide))).mono (Nat.le_refl _) (show wo.heap.size ≤ w6.heap.size from Nat.le_trans hz5 hg6.size))
            have HB := Lib.hid (TB.trans hb6)
            clear hown6 hb6 hg6 hobN hooN TB
            go_wp2
            go_roundw
            case rel =>
              have P : SeR (cards hs) (selB s t (i : Int) (j : Int)) ks (some ⟨bz, oz, none⟩) ck hs.length W w6 (.slice (some ⟨gg, 0, none⟩) (gs.length + 1) cap) (.int .i64 ((k : Int) + 1)) := ⟨k + 1, some ⟨gg, 0, none⟩, cap, gs ++ [⟨B, d, hs[k].xs⟩], by omega, by go_num, by rw [List.length_append]; rfl, by rw [List.length_append]; simp only [List.length_singleton]; omega, by rw [HKP.out, cards_append, HGC.out, HCA.out]; rfl, HO.out, HOO.out, HB.out⟩
              first | exact P | exact ⟨_, P, rfl⟩ | exact ⟨_, _, P, rfl, rfl⟩ | exact ⟨_, _, _, P, rfl, rfl, rfl⟩ | exact ⟨_, _, _, _, P, rfl, rfl, rfl, rfl⟩ | exact ⟨_, _, _, _, _, P, rfl, rfl, rfl, rfl, rfl⟩ | exact ⟨_, _, _, _, _, _, P, rfl, rfl, rfl, rfl, rfl, rfl⟩ | exact ⟨_, _, _, _, _, _, _, P, rfl, rfl, rfl, rfl, rfl, rfl, rfl⟩ | exact ⟨_, _, _, _, _, _, _, _, P, rfl, rfl, rfl, rfl, rfl, rfl, rfl, rfl⟩
            case measure => simp [intOf]; omega
          · have HKP := Lib.hid (keep_yes (p := selB s t (i : Int) (j : Int)) HKC.out (by rw [HSB.out, decide_eq_true (show 0 < z by omega)]; simp))
            go_wp2_with fail
            refine (HC1.out _).mono ?_; rintro e w4 ⟨rfl, rfl⟩
            go_wp2_with fail
            refine (HC2.out _).mono ?_; rintro e w4 ⟨rfl, rfl⟩
            go_wp2
            go_roundw
            case rel =>
              have P : SeR (cards hs) (selB s t (i : Int) (j : Int)) ks (some ⟨bz, oz, none⟩) ck hs.length W wo (.slice G gs.length cg) (.int .i64 ((k : Int) + 1)) := ⟨k + 1, G, cg, gs, by omega, by go_num, rfl, by omega, by rw [HKP.out, HGC.out], hob, hoo, hbw⟩
              first | exact P | exact ⟨_, P, rfl⟩ | exact ⟨_, _, P, rfl, rfl⟩ | exact ⟨_, _, _, P, rfl, rfl, rfl⟩ | exact ⟨_, _, _, _, P, rfl, rfl, rfl, rfl⟩ | exact ⟨_, _, _, _, _, P, rfl, rfl, rfl, rfl, rfl⟩ | exact ⟨_, _, _, _, _, _, P, rfl, rfl, rfl, rfl, rfl, rfl⟩ | exact ⟨_, _, _, _, _, _, _, P, rfl, rfl, rfl, rfl, rfl, rfl, rfl⟩ | exact ⟨_, _, _, _, _, _, _, _, P, rfl, rfl, rfl, rfl, rfl, rfl, rfl, rfl⟩
            case measure => simp [intOf]; omega
        · have HKP := Lib.hid (keep_yes (p := selB s t (i : Int) (j : Int)) HKC.out (by rw [HSB.out, decide_eq_true (show y < 0 by omega)]; simp))
          go_wp2_with fail
          refine (HC1.out _).mono ?_; rintro e w4 ⟨rfl, rfl⟩
          go_wp2
          go_roundw
          case rel =>
            have P : SeR (cards hs) (selB s t (i : Int) (j : Int)) ks (some ⟨bz, oz, none⟩) ck hs.length W wo (.slice G gs.length cg) (.int .i64 ((k : Int) + 1)) := ⟨k + 1, G, cg, gs, by omega, by go_num, rfl, by omega, by rw [HKP.out, HGC.out], hob, hoo, hbw⟩
            first | exact P | exact ⟨_, P, rfl⟩ | exact ⟨_, _, P, rfl, rfl⟩ | exact ⟨_, _, _, P, rfl, rfl, rfl⟩ | exact ⟨_, _, _, _, P, rfl, rfl, rfl, rfl⟩ | exact ⟨_, _, _, _, _, P, rfl, rfl, rfl, rfl, rfl⟩ | exact ⟨_, _, _, _, _, _, P, rfl, rfl, rfl, rfl, rfl, rfl⟩ | exact ⟨_, _, _, _, _, _, _, P, rfl, rfl, rfl, rfl, rfl, rfl, rfl⟩ | exact ⟨_, _, _, _, _, _, _, _, P, rfl, rfl, rfl, rfl, rfl, rfl, rfl, rfl⟩
          case measure => simp [intOf]; omega
      · obtain rfl : k = hs.length := by omega
        have HK2 := Lib.hid (show cards gs = selRes (cards hs) (i : Int) (j : Int) s t by rw [HGC.out, HR.out, List.take_of_length_le (by rw [HCL.out]; omega)])
        go_wp2
        go_ret2
        exact ⟨G, cg, gs, ret_dd HZ.out.symm, HK2.out, hob.mono T0.size (Nat.le_refl _), bs T0 hbw⟩
  · have HR := Lib.hid (selRes_1 hz)
    have e1 := bne_t hz
    clear hz
    go_enter Try.func23, Try.ntmps23
    go_wp2_with fail
    rw [← HW.out]
    refine HCO.out.mono ?_; rintro e w1 ⟨K, ck, rfl, hown0, hb1⟩
    go_wp2
    go_ret2
    exact ⟨none, 0, [], ret_dd rfl, HR.out.symm, ObD.nil _ _ _ _ _, bs T0 hb1⟩

/-- One text twice. -/
theorem colC_twice (L : List (List Int)) (a b : Int) (s : ByteArray) : colC [L] true [s, s] a b = colC [L] true [s] a b := by
  unfold colC
  simp
theorem ret_dd2 {E : Option Addr} {n ce : Nat} {a b : Int} (h : a = b) : Ending.returned (.tuple #[.slice E n ce, .int .i64 a]) = .returned (.tuple #[.slice E n ce, .int .i64 b]) := by rw [h]
set_option maxHeartbeats 2000000 in
theorem SelectEqual_any (D : Option Addr) (c : Nat) (hs : List Hd) (L : List (List Int)) (a b : Int) (s : ByteArray) (w : World) (ha : RdD w w.heap.size D hs) (hL : cards hs = L) (hl : hs.length + tot hs ≤ 1048576) (hc : hs.length ≤ c) (hq1 : s.size ≤ 1048576) :
    Calls Try.prog 19 #[.slice D hs.length c, .agg #[.int .i64 a, .int .i64 b], .string s] w fun e w' => ∃ E ce gs, e = .returned (.tuple #[.slice E gs.length ce, .int .i64 (colC [L] true [s] a b)]) ∧ cards gs = selRes L a b s s ∧ ObD w' w.heap.size w'.heap.size 62 2 E ce gs ∧ Below w.heap.size w w' := by
  have T0 : Below w.heap.size w (w.alloc (.cells #[.int .i64 a, .int .i64 b] 30)) := ba (b0 w) _
  have ra := ha.a1 (.cells #[.int .i64 a, .int .i64 b] 30)
  have HL := Lib.hid hL
  have HT := Lib.hid (colC_twice L a b s)
  clear hL
  go_enter Try.func19, Try.ntmps19
  go_wp2_with fail
  refine (SelectBetween_any _ _ hs L a b s s _ ra HL.out hl hc hq1 hq1).mono ?_; rintro e w1 ⟨E, ce, gs, rfl, hcc, hoo, hb1⟩
  have HCC := Lib.hid hcc
  clear hcc
  go_wp2
  go_ret2
  exact ⟨E, ce, gs, ret_dd2 HT.out, HCC.out, hoo.mono T0.size (Nat.le_refl _), bs T0 hb1⟩
end Go.Proofs.Ytabdlbaonjhnnaa
