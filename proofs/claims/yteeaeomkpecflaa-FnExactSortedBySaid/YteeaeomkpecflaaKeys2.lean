/- The texts of a field of all cards, the steps, the groups; in the program and in the reference. -/
import Derived.Test.YteeaeomkpecflaaKeys
import Derived.IntWalk
namespace Go.Proofs.Yteeaeomkpecflaa
open Go.RowKit

theorem part_deck {L : List (List Int)} (hok : deckOk L = true) {i j : Nat} (hij : i < j) (hj : j ≤ deckW L) {k : Nat} (hk : k < L.length) : (part L[k] (i : Int) (j : Int)).length = j - i ∧ j ≤ L[k].length := by
  have h1 := (deckOk_card hok hk).2
  have h2 : deckW L = wid0 L := by unfold deckW; rw [if_neg (by omega)]
  exact ⟨part_len hij (by omega), by omega⟩
theorem ret_kk {K : Option Addr} {n m ck : Nat} {a b : Int} (h : a = b) (k : n = m) : Ending.returned (.tuple #[.slice K n ck, .int .i64 a]) = .returned (.tuple #[.slice K m ck, .int .i64 b]) := by rw [h, k]

theorem l03Key_yes (p q : Nat) (A : Option Addr) (c : Nat) (xs : List Int) (i j : Nat) (t : List UInt8) (w : World) (ht : t = textL (part xs (i : Int) (j : Int))) (hv : legalL (part xs (i : Int) (j : Int)) = true) (hp : w.cell? ⟨p, q, none⟩ = some (.slice A xs.length c)) (ha : Rd w w.heap.size 1 A xs.length (ints xs)) (hij : i < j) (hj : j ≤ xs.length) (hc : xs.length ≤ c) (hl : xs.length ≤ 1048576) :
    Calls Try.prog 91 #[.pointer (some ⟨p, q, none⟩), .agg #[.int .i64 (i : Int), .int .i64 (j : Int)]] w fun e w' => e = .returned (.tuple #[.string (bs_ t), .bool true]) ∧ Below w.heap.size w w' := by
  rw [ht, ← keyT_yes hv]
  have := l03Key_any p q A c xs i j w hp ha hij hj hc hl
  rwa [hv] at this
theorem l03Key_no (p q : Nat) (A : Option Addr) (c : Nat) (xs : List Int) (i j : Nat) (w : World) (hv : legalL (part xs (i : Int) (j : Int)) = false) (hp : w.cell? ⟨p, q, none⟩ = some (.slice A xs.length c)) (ha : Rd w w.heap.size 1 A xs.length (ints xs)) (hij : i < j) (hj : j ≤ xs.length) (hc : xs.length ≤ c) (hl : xs.length ≤ 1048576) :
    Calls Try.prog 91 #[.pointer (some ⟨p, q, none⟩), .agg #[.int .i64 (i : Int), .int .i64 (j : Int)]] w fun e w' => e = .returned (.tuple #[.string (bs_ []), .bool false]) ∧ Below w.heap.size w w' := by
  have := l03Key_any p q A c xs i j w hp ha hij hj hc hl
  rwa [hv, keyT_no hv] at this

/-- Behind k cards. -/
def KyR (L : List (List Int)) (i j : Nat) (w wr : World) (o q : Value) : Prop := ∃ (k : Nat) (G : Option Addr) (cg : Nat), k ≤ L.length ∧ q = .int .i64 k ∧ o = .slice G k cg ∧ (L.take k).any (fun x => !legalL (part x (i : Int) (j : Int))) = false ∧
  wr.ownsRow w.heap.size 9 1 (.slice G k cg) k (strs (keysL (L.take k) (i : Int) (j : Int))) ∧ Below w.heap.size w wr

set_option maxRecDepth 20000 in
set_option maxHeartbeats 4000000 in
theorem l07Keys_any (D : Option Addr) (c : Nat) (hs : List Hd) (a b : Int) (w : World) (ha : RdD w w.heap.size D hs) (hl : hs.length + tot hs ≤ 1048576) :
    Calls Try.prog 56 #[.slice D hs.length c, .agg #[.int .i64 a, .int .i64 b]] w fun e w' => ∃ K ck, e = .returned (.tuple #[.slice K (keysRes (cards hs) a b).length ck, .int .i64 (codeK (cards hs) a b)]) ∧
      w'.ownsRow w.heap.size 9 1 (.slice K (keysRes (cards hs) a b).length ck) (keysRes (cards hs) a b).length (strs (keysRes (cards hs) a b)) ∧ Below w.heap.size w w' := by
  obtain ⟨j0, hj, hj0, hj1, hj2⟩ := info_parts info_strK
  have T0 : Below w.heap.size w (w.alloc (.cells #[.int .i64 a, .int .i64 b] 31)) := ba (b0 w) _
  have ra := ha.a1 (.cells #[.int .i64 a, .int .i64 b] 31)
  have HCL := Lib.hid (cards_length hs)
  rcases Bool.eq_false_or_eq_true (deckOk (cards hs)) with h1 | h1
  · have H1 := Lib.hid h1
    have h40 : hs.length ≤ 40 := by have := deckOk_len h1; rwa [cards_length] at this
    rcases Bool.eq_false_or_eq_true (fieldOk a b (deckW (cards hs) : Int)) with h2 | h2
    · obtain ⟨i, j, rfl, rfl, hij, hjw⟩ := fieldOk_nat h2
      have H2 := Lib.hid h2
      go_enter Try.func56, Try.ntmps56
      go_wp2_with fail
      refine (l02Deck_any _ _ hs _ ra hl).mono ?_; rintro e w1 ⟨rfl, hb1⟩
      have k2 : w1.cell? ⟨w.heap.size, 0, none⟩ = some (.int .i64 (i : Int)) := cell_later hb1 (cell_new rfl rfl)
      have k3 : w1.cell? ⟨w.heap.size, 1, none⟩ = some (.int .i64 (j : Int)) := cell_later hb1 (cell_new rfl rfl)
      have l2 := fun x : Later w1 => lat_cell x k2
      have l3 := fun x : Later w1 => lat_cell x k3
      have hra := ra.up hb1
      have T1 := bs T0 hb1
      clear hb1 ra
      go_wp2_with fail
      refine wp_region_later (by kernel_rfl) (by kernel_rfl) ?_
      repeat (go_big_quiet_step ((first | (go_at_call 75; exact lat_pure (l07Width_any _ _ hs _ (hra.up (Later.below _)) hl)) | (go_at_call 90; exact lat_call (l02Field_any _ _ _ _)))))
      refine wpQuiet_nil ?_
      intro w2 hb2
      have k4 := cell_later hb2 k2
      have k5 := cell_later hb2 k3
      have rb := hra.up hb2
      have T2 := bs T1 hb2
      clear k2 k3 l2 l3 hb2 hra T1
      go_wp2
      go_loopw [6, 7] (fun o q wr => KyR (cards hs) i j w2 wr o q) (fun _ q _ => hs.length - (intOf q).toNat)
      case atStart => exact ⟨0, some ⟨w2.heap.size, 0, none⟩, 0, Nat.zero_le _, rfl, rfl, rfl, own_lit w2 #[] 0 rfl (Nat.le_refl _) (by omega) rfl, ba (b0 w2) (.cells #[] 9)⟩
      case round =>
        obtain ⟨wo, rfl⟩ : ∃ wo : World, wo = wr := ⟨_, rfl⟩
        obtain ⟨k, G, cg, hk, rfl, rfl, hno, hown, hbw⟩ := hrel
        have HNO := Lib.hid hno
        have hk' : k ≤ hs.length := by rw [← HCL.out]; exact hk
        clear hno hk
        by_cases hlt : k < hs.length
        · have i1 : (k : Int) < (hs.length : Int) := by omega
          have hrc := rb.up hbw
          have rc := hrc.card_at hlt
          have hcap := hrc.cap_at hlt
          have hlc : hs[k].xs.length ≤ 1048576 := by have := tot_at hs k hlt; omega
          have hkc : k < (cards hs).length := by rw [HCL.out]; exact hlt
          have HKC := Lib.hid hkc
          have HCA := Lib.hid (cards_at hs k hkc)
          have hjk : j ≤ hs[k].xs.length := by rw [← deckW_at H1.out hlt]; exact hjw
          obtain ⟨b1, o1, rfl, _, hcell⟩ := hrc.at_ hlt
          have kc := hcell k hlt
          have q4 := cell_later hbw k4
          have q5 := cell_later hbw k5
          have l2 := fun x : Later wo => lat_cell x q4
          have l3 := fun x : Later wo => lat_cell x q5
          have hbase := hbw.size
          clear hcell hrc
          rcases Bool.eq_false_or_eq_true (legalL (part hs[k].xs (i : Int) (j : Int))) with hm | hm
          · have HP := Lib.hid (any_take_succ (p := fun x => !legalL (part x (i : Int) (j : Int))) HKC.out HNO.out (by rw [HCA.out, hm]; rfl))
            have HM := Lib.hid hm
            obtain ⟨t, ht⟩ : ∃ t, t = textL (part hs[k].xs (i : Int) (j : Int)) := ⟨_, rfl⟩
            have HT := Lib.hid ht
            have HS := Lib.hid (show keysL ((cards hs).take (k + 1)) (i : Int) (j : Int) = keysL ((cards hs).take k) (i : Int) (j : Int) ++ [t] by rw [keysL_snoc _ _ _ k HKC.out, HCA.out, ht])
            clear ht hm
            go_wp2_with fail
            refine wp_region_later (by kernel_rfl) (by kernel_rfl) ?_
            repeat (go_big_quiet_step ((go_at_call 91; exact lat_call (l03Key_yes b1 (o1 + k) hs[k].a hs[k].c hs[k].xs i j t _ HT.out HM.out (lat_cell _ kc) (lat_rd _ rc) hij hjk hcap hlc))))
            refine wpQuiet_nil ?_
            intro w4 hb4
            have hownN := own_bs hown hb4
            have TB := bs hbw hb4
            have hbase4 := TB.size
            clear hown hb4 hbw rc
            go_wp2_with (at_builtin; refine wpList_ap rfl (.tmp 35) (.tmp 37) 82 rfl w2.heap.size 9 j0 _ 1 16 Try.underlying82 hj hj0 hj1 hj2 rfl (by omega) _ k _ (strs (keysL ((cards hs).take k) (i : Int) (j : Int))) rfl w4 hownN 1 #[.string (bs_ t)] w4.heap.size rfl rfl rfl (by intro v hv; simp at hv; subst hv; rfl) (by omega) (by omega) (by omega) hbase4 ?_; intro gg cap w6 hown6 hb6 hg6 _ _)
            have HO := Lib.hid (show w6.ownsRow w2.heap.size 9 1 (.slice (some ⟨gg, 0, none⟩) (k + 1) cap) (k + 1) (strs (keysL ((cards hs).take (k + 1)) (i : Int) (j : Int))) by rw [HS.out, strs_snoc]; exact hown6)
            have HB := Lib.hid (TB.trans hb6)
            clear hown6 hownN hb6 hg6 TB
            go_wp2
            go_roundw
            case rel =>
              have P : KyR (cards hs) i j w2 w6 (.slice (some ⟨gg, 0, none⟩) (k + 1) cap) (.int .i64 ((k : Int) + 1)) := ⟨k + 1, some ⟨gg, 0, none⟩, cap, by have := HKC.out; omega, by go_num, rfl, HP.out, HO.out, HB.out⟩
              first | exact P | exact ⟨_, P, rfl⟩ | exact ⟨_, _, P, rfl, rfl⟩ | exact ⟨_, _, _, P, rfl, rfl, rfl⟩ | exact ⟨_, _, _, _, P, rfl, rfl, rfl, rfl⟩ | exact ⟨_, _, _, _, _, P, rfl, rfl, rfl, rfl, rfl⟩ | exact ⟨_, _, _, _, _, _, P, rfl, rfl, rfl, rfl, rfl, rfl⟩ | exact ⟨_, _, _, _, _, _, _, P, rfl, rfl, rfl, rfl, rfl, rfl, rfl⟩ | exact ⟨_, _, _, _, _, _, _, _, P, rfl, rfl, rfl, rfl, rfl, rfl, rfl, rfl⟩
            case measure => simp [intOf]; omega
          · have HM := Lib.hid hm
            have HV := Lib.hid (show haveF (cards hs) (i : Int) (j : Int) = false from List.all_eq_false.2 ⟨(cards hs)[k]'HKC.out, List.getElem_mem HKC.out, by rw [HCA.out, hm]; simp⟩)
            have HC := Lib.hid (codeK_8 H1.out H2.out HV.out)
            have HR := Lib.hid (keysRes_1 (L := cards hs) (a := (i : Int)) (b := (j : Int)) (by rw [HC.out]; decide))
            clear hm
            go_wp2_with fail
            refine wp_region_later (by kernel_rfl) (by kernel_rfl) ?_
            repeat (go_big_quiet_step ((go_at_call 91; exact lat_call (l03Key_no b1 (o1 + k) hs[k].a hs[k].c hs[k].xs i j _ HM.out (lat_cell _ kc) (lat_rd _ rc) hij hjk hcap hlc))))
            refine wpQuiet_nil ?_
            intro w4 hb4
            go_wp2
            go_ret2
            refine ⟨none, 0, ret_kk HC.out.symm (by rw [HR.out]; rfl), ?_, bs T2 (bs hbw hb4)⟩
            rw [HR.out]
            exact World.ownsRow_nil _ _ _ _
        · obtain rfl : k = hs.length := by omega
          have HTK := Lib.hid (show (cards hs).take hs.length = cards hs from List.take_of_length_le (by rw [HCL.out]; omega))
          have HV := Lib.hid (show haveF (cards hs) (i : Int) (j : Int) = true by
            have h1 := HNO.out
            rw [HTK.out, any_not_allI] at h1
            simpa [haveF] using h1)
          have HC := Lib.hid (codeK_0 H1.out H2.out HV.out)
          have HR := Lib.hid (keysRes_0 HC.out)
          have HL := Lib.hid (show hs.length = (keysRes (cards hs) (i : Int) (j : Int)).length by rw [HR.out, keysL_length, HCL.out])
          have HO := Lib.hid (show wo.ownsRow w.heap.size 9 1 (.slice G hs.length cg) hs.length (strs (keysRes (cards hs) (i : Int) (j : Int))) by
            rw [HR.out]
            have h1 := hown
            rw [HTK.out] at h1
            exact own_base h1 T2.size)
          clear hown
          go_wp2
          go_ret2
          refine ⟨G, cg, ret_kk HC.out.symm HL.out, ?_, bs T2 hbw⟩
          rw [← HL.out]
          exact HO.out
    · have HC := Lib.hid (codeK_2 h1 h2)
      have HR := Lib.hid (keysRes_1 (L := cards hs) (a := a) (b := b) (by rw [HC.out]; decide))
      go_enter Try.func56, Try.ntmps56
      go_wp2_with fail
      refine (l02Deck_any _ _ hs _ ra hl).mono ?_; rintro e w1 ⟨rfl, hb1⟩
      have k2 : w1.cell? ⟨w.heap.size, 0, none⟩ = some (.int .i64 a) := cell_later hb1 (cell_new rfl rfl)
      have k3 : w1.cell? ⟨w.heap.size, 1, none⟩ = some (.int .i64 b) := cell_later hb1 (cell_new rfl rfl)
      have l2 := fun x : Later w1 => lat_cell x k2
      have l3 := fun x : Later w1 => lat_cell x k3
      have hra := ra.up hb1
      have T1 := bs T0 hb1
      clear hb1 ra
      go_wp2_with fail
      refine wp_region_later (by kernel_rfl) (by kernel_rfl) ?_
      repeat (go_big_quiet_step ((first | (go_at_call 75; exact lat_pure (l07Width_any _ _ hs _ (hra.up (Later.below _)) hl)) | (go_at_call 90; exact lat_call (l02Field_any _ _ _ _)))))
      refine wpQuiet_nil ?_
      intro w2 hb2
      go_wp2
      go_ret2
      refine ⟨none, 0, ret_kk HC.out.symm (by rw [HR.out]; rfl), ?_, bs T1 hb2⟩
      rw [HR.out]
      exact World.ownsRow_nil _ _ _ _
  · have HC := Lib.hid (codeK_1 (a := a) (b := b) h1)
    have HR := Lib.hid (keysRes_1 (L := cards hs) (a := a) (b := b) (by rw [HC.out]; decide))
    go_enter Try.func56, Try.ntmps56
    go_wp2_with fail
    refine (l02Deck_any _ _ hs _ ra hl).mono ?_; rintro e w1 ⟨rfl, hb1⟩
    go_wp2
    go_ret2
    refine ⟨none, 0, ret_kk HC.out.symm (by rw [HR.out]; rfl), ?_, bs T0 hb1⟩
    rw [HR.out]
    exact World.ownsRow_nil _ _ _ _

theorem l03Compare_z (s t : List UInt8) (z : Int) (w : World) (hz : z = cmpT s t) (hst : s.length = t.length) (hl : s.length ≤ 1048576) :
    Calls Try.prog 92 #[.string (bs_ s), .string (bs_ t)] w fun e w' => e = .returned (.int .i64 z) ∧ w = w' := by
  subst hz
  exact l03Compare_l s t w hst hl
set_option maxHeartbeats 2000000 in
theorem l07Step_any (K : Option Addr) (ck n : Nat) (L : List (List Int)) (i j : Nat) (w : World) (hn : L.length = n) (hok : deckOk L = true) (hij : i < j) (hj : j ≤ deckW L) (hv : haveF L (i : Int) (j : Int) = true) (ha : Rd w w.heap.size 1 K n (strs (keysL L (i : Int) (j : Int)))) :
    Calls Try.prog 63 #[.slice K n ck] w fun e w' => e = .returned (.int .i64 (stepF L (i : Int) (j : Int) n)) ∧ Below w.heap.size w w' := by
  have HN := Lib.hid hn
  have HOK := Lib.hid hok
  have HV := Lib.hid hv
  have h40 : n ≤ 40 := by rw [← hn]; exact deckOk_len hok
  have hj20 : j ≤ 20 := Nat.le_trans hj (deckOk_wid hok).1
  clear hn hok hv
  go_enter Try.func63, Try.ntmps63
  go_wp2
  go_loopw [3] (fun q wr => ∃ k : Nat, 1 ≤ k ∧ k ≤ 41 ∧ q = .int .i64 k ∧ stepsL L (i : Int) (j : Int) (min k n) = [] ∧ Below w.heap.size w wr) (fun q _ => n + 1 - (intOf q).toNat)
  case atStart =>
    refine ⟨1, by omega, by omega, rfl, ?_, b0 _⟩
    rcases Nat.eq_zero_or_pos n with h0 | h0
    · rw [h0]; simp [stepsL_zero]
    · rw [Nat.min_eq_left (by omega), stepsL_one]
  case round =>
    obtain ⟨k, hk1, hk41, rfl, hno, hbw⟩ := hrel
    have HNO := Lib.hid hno
    clear hno
    by_cases hlt : k < n
    · have hkL : k < L.length := by rw [HN.out]; exact hlt
      have hk1L : k - 1 < L.length := by omega
      obtain ⟨s, hs⟩ : ∃ s, s = textL (part L[k] (i : Int) (j : Int)) := ⟨_, rfl⟩
      obtain ⟨t, ht⟩ : ∃ t, t = textL (part L[k - 1] (i : Int) (j : Int)) := ⟨_, rfl⟩
      obtain ⟨z, hz⟩ : ∃ z, z = cmpT s t := ⟨_, rfl⟩
      have HZ := Lib.hid hz
      have HZC := Lib.hid (show z = cmpC L (i : Int) (j : Int) k (k - 1) by rw [hz, hs, ht, keysL_cmp HV.out hkL hk1L])
      have HST := Lib.hid (show s.length = t.length by rw [hs, ht, textL_length, textL_length, (part_deck HOK.out hij hj hkL).1, (part_deck HOK.out hij hj hk1L).1])
      have HSL := Lib.hid (show s.length ≤ 1048576 by rw [hs, textL_length, (part_deck HOK.out hij hj hkL).1]; omega)
      obtain ⟨b1, o1, rfl, hbb, hc⟩ := ha.at_ hlt
      have d1 := cell_later hbw (hc k _ (strs_get _ k (by rw [keysL_length]; exact hkL)))
      have d2 := cell_later hbw (hc (k - 1) _ (strs_get _ (k - 1) (by rw [keysL_length]; exact hk1L)))
      rw [keysL_at _ _ _ _ hkL, ← hs] at d1
      rw [keysL_at _ _ _ _ hk1L, ← ht] at d2
      have l1 := fun x : Later wr => lat_cell x d1
      have l2 := fun x : Later wr => lat_cell x d2
      have HMIN := Lib.hid (show min k n = k by omega)
      have HMIN2 := Lib.hid (show min (k + 1) n = k + 1 by omega)
      have i1 : (k : Int) < (n : Int) := by omega
      have i2 : ((k - 1 : Nat) : Int) < (n : Int) := by omega
      have hw1 : IntKind.i64.wrap ((k : Int) - 1) = ((k - 1 : Nat) : Int) := by rw [IntWalk.i64_in _ (by omega)]; omega
      clear hs ht hz hc d1 d2 hkL hk1L
      by_cases hp : z < 0
      · have HR := Lib.hid (stepF_hit (by have := HNO.out; rwa [HMIN.out] at this) hk1 hlt (by rw [← HZC.out]; exact hp))
        go_wp2_with fail
        refine wp_region_later (by kernel_rfl) (by kernel_rfl) ?_
        repeat (go_big_quiet_step ((go_at_call 92; exact lat_pure (l03Compare_z s t z _ HZ.out HST.out HSL.out))))
        refine wpQuiet_nil ?_
        intro w4 hb4
        clear hw1
        go_wp2
        go_ret
        exact ⟨ret_int HR.out.symm, bs hbw hb4⟩
      · have HR := Lib.hid (show stepsL L (i : Int) (j : Int) (min (k + 1) n) = [] by rw [HMIN2.out, stepsL_no (by rw [← HZC.out]; exact hp)]; have := HNO.out; rwa [HMIN.out] at this)
        go_wp2_with fail
        refine wp_region_later (by kernel_rfl) (by kernel_rfl) ?_
        repeat (go_big_quiet_step ((go_at_call 92; exact lat_pure (l03Compare_z s t z _ HZ.out HST.out HSL.out))))
        refine wpQuiet_nil ?_
        intro w4 hb4
        clear hw1
        go_wp2
        go_roundw
        case rel => exact ⟨k + 1, by omega, by omega, by go_num, HR.out, bs hbw hb4⟩
        case measure => simp [intOf]; omega
    · have HR := Lib.hid (stepF_none (by have := HNO.out; rwa [show min k n = n by omega] at this))
      go_wp2
      go_ret
      exact ⟨ret_int HR.out.symm, hbw⟩
end Go.Proofs.Yteeaeomkpecflaa
