/- Decks: validity, columns, copies; in the program and in the reference. -/
import Derived.Test.YtmfoaggohlfflaaGreatDoorCardFns
import Derived.Test.YtmfoaggohlfflaaGreatDoorDecks2
import Derived.Test.YtmfoaggohlfflaaGreatDoorLater
namespace Go.Proofs.YtmfoaggohlfflaaGreatDoor
open Go.RowKit

def deckP (n : Nat) (x : List Int) : Bool := cardOk x && (x.length == n)
def wid0 (L : List (List Int)) : Nat := (L.headD []).length
def deckOk (L : List (List Int)) : Bool := L.all (deckP (wid0 L)) && decide (L.length ≤ 40)
/-- The columns of a deck's cards; 20 without cards. -/
def deckW (L : List (List Int)) : Nat := if L.length = 0 then 20 else wid0 L
theorem deckOk_len {L : List (List Int)} (h : deckOk L = true) : L.length ≤ 40 := by
  simp only [deckOk, Bool.and_eq_true, decide_eq_true_eq] at h
  exact h.2
theorem deckOk_card {L : List (List Int)} (h : deckOk L = true) {k : Nat} (hk : k < L.length) : cardOk L[k] = true ∧ L[k].length = wid0 L := by
  simp only [deckOk, Bool.and_eq_true] at h
  have := List.all_eq_true.1 h.1 _ (List.getElem_mem hk)
  simpa [deckP] using this
theorem deckOk_wid {L : List (List Int)} (h : deckOk L = true) : deckW L ≤ 20 ∧ 1 ≤ deckW L := by
  unfold deckW
  split
  · omega
  · rename_i h0
    have h1 := deckOk_card h (k := 0) (by omega)
    have := cardOk_len h1.1
    omega
theorem info_cardD : (Tryz.prog.info? 41).map (fun i => (i.zero, i.size, i.bytes)) = some (some (.agg #[.slice none 0 0]), 1, 24) := by kernel_rfl
theorem one_slice (B : Option Addr) (n d : Nat) : ∀ u ∈ (#[Value.slice B n d] : Array Value).toList, u.oneCell' = true := by
  intro u hu
  simp at hu
  subst hu
  rfl
theorem wid0_cards {hs : List Hd} (h : 0 < hs.length) : wid0 (cards hs) = hs[0].xs.length := by
  cases hs with
  | nil => simp at h
  | cons x hs => rfl
theorem deckOk_hd {hs : List Hd} (h : deckOk (cards hs) = true) {k : Nat} (hk : k < hs.length) : cardOk hs[k].xs = true ∧ hs[k].xs.length = wid0 (cards hs) := by
  have := deckOk_card h (k := k) (by rw [cards_length]; exact hk)
  simpa [cards] using this
/-- The first k cards are good ones. -/
def goodTo (hs : List Hd) (k : Nat) : Prop := ((cards hs).take k).any (fun x => !deckP (wid0 (cards hs)) x) = false
theorem goodTo_zero (hs : List Hd) : goodTo hs 0 := by simp [goodTo]
theorem goodTo_succ {hs : List Hd} {k : Nat} (h : goodTo hs k) (hk : k < hs.length) (h1 : cardOk hs[k].xs = true) (h2 : hs[k].xs.length = wid0 (cards hs)) : goodTo hs (k + 1) := by
  refine any_take_succ (by rw [cards_length]; exact hk) h ?_
  rw [cards_at]
  simp [deckP, h1, h2]
theorem deckOk_bad {hs : List Hd} {k : Nat} (hk : k < hs.length) (h : ¬ (cardOk hs[k].xs = true ∧ hs[k].xs.length = wid0 (cards hs))) : deckOk (cards hs) = false := by
  cases hd : deckOk (cards hs) with
  | false => rfl
  | true => exact absurd (deckOk_hd hd hk) h
theorem deckOk_end {hs : List Hd} (h : goodTo hs hs.length) : deckOk (cards hs) = decide (hs.length ≤ 40) := by
  unfold goodTo at h
  rw [List.take_of_length_le (by rw [cards_length]; omega), any_not_allI] at h
  simp only [Bool.not_eq_false'] at h
  unfold deckOk
  rw [h, cards_length]
  rfl

set_option maxHeartbeats 2000000 in
theorem l02Deck_w (D : Option Addr) (c : Nat) (hs : List Hd) (w : World) (ha : RdD w w.heap.size D hs) (hl : hs.length + tot hs ≤ 1048577) :
    Calls Tryz.prog 67 #[.slice D hs.length c] w fun e w' => e = .returned (.bool (deckOk (cards hs))) ∧ Below w.heap.size w w' := by
  go_enter Tryz.func67, Tryz.ntmps67
  go_wp2
  go_loopw [3] (fun i wr => ∃ k : Nat, k ≤ hs.length ∧ i = .int .i64 k ∧ goodTo hs k ∧ Below w.heap.size w wr) (fun i _ => hs.length - (intOf i).toNat)
  case atStart => exact ⟨0, Nat.zero_le _, rfl, goodTo_zero _, b0 _⟩
  case round =>
    obtain ⟨k, hk, rfl, hgood, hbw⟩ := hrel
    have HG := Lib.hid hgood
    clear hgood
    by_cases hlt : k < hs.length
    · have h0l : 0 < hs.length := by omega
      have i0 : (0 : Int) < (hs.length : Int) := by omega
      have i1 : (k : Int) < (hs.length : Int) := by omega
      have HW := Lib.hid (wid0_cards h0l)
      have hra := ha.up hbw
      have rc := hra.card_at hlt
      have hlc : hs[k].xs.length ≤ 1048576 := by have := tot_at hs k hlt; omega
      obtain ⟨b, off, hD, hbb, hcell⟩ := hra.at_ hlt
      subst hD
      have k1 := hcell k hlt
      have k0 := hcell 0 h0l
      rw [Nat.add_zero] at k0
      clear hcell ha hra
      have l1 := fun x : Later wr => lat_cell x k1
      have l0 := fun x : Later wr => lat_cell x k0
      rcases Bool.eq_false_or_eq_true (cardOk hs[k].xs) with h1 | h1
      · by_cases h2 : hs[k].xs.length = hs[0].xs.length
        · have HS := Lib.hid (goodTo_succ HG.out hlt h1 (by rw [HW.out]; exact h2))
          have e1 : ((hs[k].xs.length : Int) != (hs[0].xs.length : Int)) = false := by simp; omega
          have e2 : ((hs[k].xs.length : Int) == (hs[0].xs.length : Int)) = true := by simp; omega
          clear h2
          go_wp2_with fail
          refine wp_region_later (by kernel_rfl) (by kernel_rfl) ?_
          repeat (go_big_quiet_step ((go_at_call 76; exact lat_call (l02Ok_any b (off + k) hs[k].a hs[k].c hs[k].xs _ (lat_cell _ k1) (lat_rd _ rc) hlc))))
          refine wpQuiet_nil ?_
          intro w1 hb1
          go_wp2
          go_roundw
          case rel => exact ⟨k + 1, by omega, by go_num, HS.out, bs hbw hb1⟩
          case measure => simp [intOf]; omega
        · have HS := Lib.hid (deckOk_bad hlt (fun h => h2 (by rw [h.2, HW.out])))
          have e1 : ((hs[k].xs.length : Int) != (hs[0].xs.length : Int)) = true := by simp; omega
          have e2 : ((hs[k].xs.length : Int) == (hs[0].xs.length : Int)) = false := by simp; omega
          clear h2
          go_wp2_with fail
          refine wp_region_later (by kernel_rfl) (by kernel_rfl) ?_
          repeat (go_big_quiet_step ((go_at_call 76; exact lat_call (l02Ok_any b (off + k) hs[k].a hs[k].c hs[k].xs _ (lat_cell _ k1) (lat_rd _ rc) hlc))))
          refine wpQuiet_nil ?_
          intro w1 hb1
          go_wp2
          go_ret
          exact ⟨ret_bool HS.out.symm, bs hbw hb1⟩
      · have HS := Lib.hid (deckOk_bad hlt (fun h => by rw [h1] at h; exact absurd h.1 (by simp)))
        go_wp2_with fail
        refine wp_region_later (by kernel_rfl) (by kernel_rfl) ?_
        repeat (go_big_quiet_step ((go_at_call 76; exact lat_call (l02Ok_any b (off + k) hs[k].a hs[k].c hs[k].xs _ (lat_cell _ k1) (lat_rd _ rc) hlc))))
        refine wpQuiet_nil ?_
        intro w1 hb1
        go_wp2
        go_ret
        exact ⟨ret_bool HS.out.symm, bs hbw hb1⟩
    · obtain rfl : k = hs.length := by omega
      have HS := Lib.hid (deckOk_end HG.out)
      go_wp2
      go_ret
      exact ⟨ret_bool (by rw [HS.out]; exact decide_eq_decide.2 (by omega)), hbw⟩

theorem l02Deck_any (D : Option Addr) (c : Nat) (hs : List Hd) (w : World) (ha : RdD w w.heap.size D hs) (hl : hs.length + tot hs ≤ 1048576) :
    Calls Tryz.prog 67 #[.slice D hs.length c] w fun e w' => e = .returned (.bool (deckOk (cards hs))) ∧ Below w.heap.size w w' := l02Deck_w D c hs w ha (by omega)
set_option maxHeartbeats 2000000 in
theorem ValidDeck_w (D : Option Addr) (c : Nat) (hs : List Hd) (w : World) (ha : RdD w w.heap.size D hs) (hl : hs.length + tot hs ≤ 1048577) :
    Calls Tryz.prog 47 #[.slice D hs.length c] w fun e w' => e = .returned (.bool (deckOk (cards hs))) ∧ Below w.heap.size w w' := by
  go_enter Tryz.func47, Tryz.ntmps47
  go_wp2
  go_loopw [4, 7] (fun _ i wr => ∃ k : Nat, k ≤ hs.length ∧ i = .int .i64 k ∧ goodTo hs k ∧ Below w.heap.size w wr) (fun _ i _ => hs.length - (intOf i).toNat)
  case atStart => exact ⟨0, Nat.zero_le _, rfl, goodTo_zero _, b0 _⟩
  case round =>
    obtain ⟨k, hk, rfl, hgood, hbw⟩ := hrel
    have HG := Lib.hid hgood
    clear hgood
    by_cases hlt : k < hs.length
    · have h0l : 0 < hs.length := by omega
      have i0 : (0 : Int) < (hs.length : Int) := by omega
      have i1 : (k : Int) < (hs.length : Int) := by omega
      have HW := Lib.hid (wid0_cards h0l)
      have hra := ha.up hbw
      have rc := (hra.card_at hlt).a1 (.cells #[.slice hs[k].a hs[k].xs.length hs[k].c] 41)
      have hlc : hs[k].xs.length ≤ 1048576 := by have := tot_at hs k hlt; omega
      have hl0 : hs[0].xs.length ≤ 1048576 := by have := tot_at hs 0 h0l; omega
      obtain ⟨b, off, hD, hbb, hcell⟩ := hra.at_ hlt
      subst hD
      have k1 := hcell k hlt
      have k0 := hcell 0 h0l
      rw [Nat.add_zero] at k0
      have l0 := fun x : Later (wr.alloc (.cells #[.slice hs[k].a hs[k].xs.length hs[k].c] 41)) => lat_cell x (cell_alloc k0 _)
      have l1 := fun x : Later (wr.alloc (.cells #[.slice hs[k].a hs[k].xs.length hs[k].c] 41)) => lat_cell x (b := wr.heap.size) (o := 0) (cell_new rfl rfl)
      clear hcell ha hra k0
      rcases Bool.eq_false_or_eq_true (cardOk hs[k].xs) with h1 | h1
      · by_cases h2 : hs[k].xs.length = hs[0].xs.length
        · have HS := Lib.hid (goodTo_succ HG.out hlt h1 (by rw [HW.out]; exact h2))
          have e1 : ((hs[k].xs.length : Int) != (hs[0].xs.length : Int)) = false := by simp; omega
          have e2 : ((hs[k].xs.length : Int) == (hs[0].xs.length : Int)) = true := by simp; omega
          clear h2
          go_wp2_with fail
          refine wp_region_later (by kernel_rfl) (by kernel_rfl) ?_
          repeat (go_big_quiet_step ((first | (go_at_call 70; exact lat_call (ValidCard_any _ _ hs[k].xs _ (lat_rd _ rc) hlc)) | (go_at_call 72; first | exact lat_call (columns_any _ _ _ _ hlc) | exact lat_call (columns_any _ _ _ _ hl0)))))
          refine wpQuiet_nil ?_
          intro w1 hb1
          go_wp2
          go_roundw
          case rel => exact ⟨k + 1, by omega, by go_num, HS.out, bs (ba hbw _) hb1⟩
          case measure => simp [intOf]; omega
        · have HS := Lib.hid (deckOk_bad hlt (fun h => h2 (by rw [h.2, HW.out])))
          have e1 : ((hs[k].xs.length : Int) != (hs[0].xs.length : Int)) = true := by simp; omega
          have e2 : ((hs[k].xs.length : Int) == (hs[0].xs.length : Int)) = false := by simp; omega
          clear h2
          go_wp2_with fail
          refine wp_region_later (by kernel_rfl) (by kernel_rfl) ?_
          repeat (go_big_quiet_step ((first | (go_at_call 70; exact lat_call (ValidCard_any _ _ hs[k].xs _ (lat_rd _ rc) hlc)) | (go_at_call 72; first | exact lat_call (columns_any _ _ _ _ hlc) | exact lat_call (columns_any _ _ _ _ hl0)))))
          refine wpQuiet_nil ?_
          intro w1 hb1
          go_wp2
          go_ret
          exact ⟨ret_bool HS.out.symm, bs (ba hbw _) hb1⟩
      · have HS := Lib.hid (deckOk_bad hlt (fun h => by rw [h1] at h; exact absurd h.1 (by simp)))
        go_wp2_with fail
        refine wp_region_later (by kernel_rfl) (by kernel_rfl) ?_
        repeat (go_big_quiet_step ((first | (go_at_call 70; exact lat_call (ValidCard_any _ _ hs[k].xs _ (lat_rd _ rc) hlc)) | (go_at_call 72; first | exact lat_call (columns_any _ _ _ _ hlc) | exact lat_call (columns_any _ _ _ _ hl0)))))
        refine wpQuiet_nil ?_
        intro w1 hb1
        go_wp2
        go_ret
        exact ⟨ret_bool HS.out.symm, bs (ba hbw _) hb1⟩
    · obtain rfl : k = hs.length := by omega
      have HS := Lib.hid (deckOk_end HG.out)
      go_wp2
      go_ret
      exact ⟨ret_bool (by rw [HS.out]; exact decide_eq_decide.2 (by omega)), hbw⟩

theorem ValidDeck_any (D : Option Addr) (c : Nat) (hs : List Hd) (w : World) (ha : RdD w w.heap.size D hs) (hl : hs.length + tot hs ≤ 1048576) :
    Calls Tryz.prog 47 #[.slice D hs.length c] w fun e w' => e = .returned (.bool (deckOk (cards hs))) ∧ Below w.heap.size w w' := ValidDeck_w D c hs w ha (by omega)
theorem deckW_zero {hs : List Hd} (h : hs.length = 0) : deckW (cards hs) = 20 := by unfold deckW; rw [cards_length, if_pos h]
theorem deckW_pos {hs : List Hd} (h : 0 < hs.length) : deckW (cards hs) = hs[0].xs.length := by unfold deckW; rw [cards_length, if_neg (by omega), wid0_cards h]
theorem deckColumns_any (D : Option Addr) (c : Nat) (hs : List Hd) (w : World) (ha : RdD w w.heap.size D hs) (hl : hs.length + tot hs ≤ 1048576) :
    Calls Tryz.prog 48 #[.slice D hs.length c] w fun e w' => e = .returned (.int .i64 (deckW (cards hs))) ∧ Below w.heap.size w w' := by
  by_cases h0 : hs.length = 0
  · have HW := Lib.hid (deckW_zero h0)
    have e0 := beq_t (a := (hs.length : Int)) (b := 0) (by omega)
    clear h0
    go_enter Tryz.func48, Tryz.ntmps48
    go_wp2
    go_ret
    exact ⟨ret_int (by rw [HW.out]; rfl), b0 _⟩
  · have h0l : 0 < hs.length := by omega
    have i0 : (0 : Int) < (hs.length : Int) := by omega
    have e0 := beq_f (a := (hs.length : Int)) (b := 0) (by omega)
    have HW := Lib.hid (deckW_pos h0l)
    have hl0 : hs[0].xs.length ≤ 1048576 := by have := tot_at hs 0 h0l; omega
    obtain ⟨b, off, hD, hbb, hcell⟩ := ha.at_ h0l
    subst hD
    have k0 := hcell 0 h0l
    rw [Nat.add_zero] at k0
    clear hcell ha h0
    go_enter Tryz.func48, Tryz.ntmps48
    go_wp2_with fail
    refine (columns_any _ _ _ _ hl0).mono ?_; rintro e w1 ⟨rfl, hb1⟩
    go_wp2
    go_ret
    exact ⟨ret_int (by rw [HW.out]), hb1⟩
set_option maxHeartbeats 1000000 in
theorem newDeck_any (D : Option Addr) (c : Nat) (hs : List Hd) (w : World) (ha : RdD w w.heap.size D hs) (hl : hs.length + tot hs ≤ 1048576) :
    Calls Tryz.prog 146 #[.slice D hs.length c] w fun e w' => ∃ D' c' gs, e = .returned (.slice D' gs.length c') ∧ cards gs = cards hs ∧ ObD w' w.heap.size w'.heap.size 41 2 D' c' gs ∧ Below w.heap.size w w' := by
  obtain ⟨i0, hi, hz0, hz1, hz2⟩ := info_parts info_cardD
  go_enter Tryz.func146, Tryz.ntmps146
  go_wp2
  go_loopw [3, 5, 9] (fun o _ i wr => ∃ (k : Nat) (D' : Option Addr) (c' : Nat) (gs : List Hd), k ≤ hs.length ∧ i = .int .i64 k ∧ o = .slice D' gs.length c' ∧ gs.length = k ∧ cards gs = cards (hs.take k) ∧ ObD wr w.heap.size wr.heap.size 41 2 D' c' gs ∧ Below w.heap.size w wr)
    (fun _ _ i _ => hs.length - (intOf i).toNat)
  case atStart => exact ⟨0, _, _, [], Nat.zero_le _, rfl, rfl, rfl, by simp [cards], ObD.empty (Ob.of (own_lit w #[] 0 rfl (Nat.le_refl _) (by omega) rfl)), ba (b0 _) _⟩
  case round =>
    obtain ⟨k, D', c', gs, hk, rfl, rfl, hgl, hgc, hob, hbw⟩ := hrel
    have HGL := Lib.hid hgl
    have HGC := Lib.hid hgc
    have hgl2 : gs.length ≤ hs.length := by omega
    clear hgl hgc
    by_cases hlt : k < hs.length
    · have hra := ha.up hbw
      have rc := (hra.card_at hlt).a1 (.cells #[.slice hs[k].a hs[k].xs.length hs[k].c] 41)
      have hlc : hs[k].xs.length ≤ 1048576 := by have := tot_at hs k hlt; omega
      have i1 : (k : Int) < (hs.length : Int) := by omega
      have HLT := Lib.hid (show gs.length ≤ 1048576 by omega)
      obtain ⟨b, off, hD, hbb, hcell⟩ := hra.at_ hlt
      subst hD
      have k1 := hcell k hlt
      clear hcell ha hra
      go_wp2_with fail
      refine (newCard_any _ _ hs[k].xs _ rc hlc).mono ?_; rintro e w1 ⟨B, d, rfl, ho1, hb1⟩
      have hob1 := (hob.alloc (.cells #[.slice hs[k].a hs[k].xs.length hs[k].c] 41)).bs hb1
      have HCARD := Lib.hid (Ob.of ho1)
      have HZ := Lib.hid hb1.size
      have HB1 := Lib.hid (bs (ba hbw (.cells #[.slice hs[k].a hs[k].xs.length hs[k].c] 41)) hb1)
      have hbase := HB1.out.size
      have HSZ := Lib.hid hbw.size
      clear ho1 hb1 hob rc
      go_wp2_with (at_builtin; refine wpList_ap rfl (.tmp 13) (.tmp 16) 24 rfl w.heap.size 41 i0 _ 1 24 Tryz.underlying24 hi hz0 hz1 hz2 rfl (by omega) _ gs.length _ (heads gs) rfl w1 hob1.row.1 1 #[.slice B hs[k].xs.length d] w1.heap.size rfl rfl rfl (one_slice _ _ _) (by omega) (by omega) (by omega) hbase ?_; intro g cap w2 hown2 hb2 hg2 _ _)
      have HO := Lib.hid (hob1.snoc (by decide) HCARD.out (by have := HZ.out; simp only [World.size_alloc] at this ⊢; omega) (by have := HZ.out; have := HSZ.out; simp only [World.size_alloc] at *; omega) hown2 hg2 (by have := HZ.out; simp only [World.size_alloc] at this; omega) (Nat.le_refl _))
      have HB := Lib.hid (HB1.out.trans hb2)
      clear hown2 hb2 hg2 hob1 hbase
      go_wp2
      go_roundw
      case rel => exact ⟨k + 1, some ⟨g, 0, none⟩, cap, gs ++ [⟨B, d, hs[k].xs⟩], by omega, by go_num, by rw [List.length_append]; rfl, by rw [List.length_append, HGL.out]; rfl, by rw [cards_append, HGC.out, cards_snoc hs k hlt]; rfl, HO.out, HB.out⟩
      case measure => simp [intOf]; omega
    · obtain rfl : k = hs.length := by omega
      have HK := Lib.hid (show cards gs = cards hs by rw [HGC.out, List.take_length])
      go_wp2
      go_ret
      exact ⟨D', c', gs, rfl, HK.out, hob, hbw⟩

end Go.Proofs.YtmfoaggohlfflaaGreatDoor
