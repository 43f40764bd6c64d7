/- What the laws over drawn decks share: their sizes, numbers out of bytes, fields; comparing, cards and decks that are the same, in the reference. -/
import Derived.Test.YtmfoaggohlfflaaGreatDoorDrawAll
import Derived.Test.YtmfoaggohlfflaaGreatDoorSame
import Derived.Test.YtmfoaggohlfflaaGreatDoorLater
namespace Go.Proofs.YtmfoaggohlfflaaGreatDoor
open Go.RowKit

/-! ### the draws' sources -/
theorem l00From_any (A : Option Addr) (n c : Nat) (bs : List UInt8) (w : World) (ha : Rd w w.heap.size 1 A n (byts bs)) (hn : n ≤ 1048576) :
    Calls Tryz.prog 35 #[.slice A n c] w fun e w' => ∃ p, w.heap.size ≤ p ∧ e = .returned (.pointer (some ⟨p, 0, none⟩)) ∧ SrcK w' p 0 ∧ Below w.heap.size w w' := by
  go_enter Tryz.func35, Tryz.ntmps35
  go_wp2
  go_ret
  refine ⟨w.heap.size, Nat.le_refl _, rfl, ⟨A, n, c, 0, bs, 0, cell_new rfl rfl, cell_new rfl rfl, cell_new rfl rfl, froz_new rfl, froz_new rfl, ha.alloc (Nat.le_refl _) _, hn, Nat.le_refl _⟩, ba (b0 w) _⟩

theorem A2Deck_any (A : Option Addr) (n c : Nat) (bs : List UInt8) (w : World) (ha : Rd w w.heap.size 1 A n (byts bs)) (hn : n ≤ 1048576) :
    Calls Tryz.prog 6 #[.slice A n c] w fun e w' => ∃ D cd gs wd, e = .returned (.slice D gs.length cd) ∧ gs.length ≤ 8 ∧ 1 ≤ wd ∧ wd ≤ 3 ∧ GoodD wd (cards gs) ∧
      ObD w' w.heap.size w'.heap.size 41 2 D cd gs ∧ Below w.heap.size w w' := by
  go_enter Tryz.func6, Tryz.ntmps6
  go_wp2_with fail
  refine (l00From_any A n c bs _ ha hn).mono ?_; rintro e w1 ⟨p, hp, rfl, hs1, hb1⟩
  have z1 := hb1.size
  go_wp2_with fail
  refine (pick_any p 0 3 _ hs1 (by omega) (by omega)).mono ?_
  rintro e w2 ⟨x, hx, rfl, hs2, hc2⟩
  have hx3 : x < 3 := by omega
  have HB2 := Lib.hid (hc2.below hb1 hp z1)
  have zw : IntKind.i64.wrap (1 + (x : Int)) = ((1 + x : Nat) : Int) := by rw [IntKind.wrap_i64]; omega
  clear hx hc2 hb1 hs1
  go_wp2_with fail
  refine (l07Draw_any p 2 (1 + x) 8 _ hs2 (by omega) (by omega) (by omega)).mono ?_
  rintro e w3 ⟨D, cd, gs, rfl, hg8, hgd, hob, hs3, hc3⟩
  have HB3 := Lib.hid (hc3.below HB2.out hp HB2.out.size)
  have HZ2 := Lib.hid HB2.out.size
  clear hs2 hs3 hc3
  go_wp2
  go_ret
  exact ⟨D, cd, gs, 1 + x, rfl, hg8, by omega, by omega, hgd, hob.mono HZ2.out (Nat.le_refl _), HB3.out⟩

/-! ### numbers out of bytes -/
theorem a2Long_no (A B : Option Addr) (n c m d : Nat) (w : World) (h1 : ¬ 3000 < n) (h2 : ¬ 3000 < m) :
    Calls Tryz.prog 5 #[.slice A n c, .slice B m d] w fun e w' => e = .returned (.bool false) ∧ w = w' := by
  have i1 : ¬ (3000 : Int) < (n : Int) := by omega
  have i2 : ¬ (3000 : Int) < (m : Int) := by omega
  go_enter Tryz.func5, Tryz.ntmps5
  go_wp2
  go_ret
  exact ⟨rfl, rfl⟩
theorem a2Long_yes (A B : Option Addr) (n c m d : Nat) (w : World) (h1 : 3000 < n ∨ 3000 < m) :
    Calls Tryz.prog 5 #[.slice A n c, .slice B m d] w fun e w' => e = .returned (.bool true) ∧ w = w' := by
  by_cases h : 3000 < n
  · have i1 : (3000 : Int) < (n : Int) := by omega
    go_enter Tryz.func5, Tryz.ntmps5
    go_wp2
    go_ret
    exact ⟨rfl, rfl⟩
  · have i1 : ¬ (3000 : Int) < (n : Int) := by omega
    have i2 : (3000 : Int) < (m : Int) := by omega
    go_enter Tryz.func5, Tryz.ntmps5
    go_wp2
    go_ret
    exact ⟨rfl, rfl⟩
theorem a2At_any (A : Option Addr) (n c : Nat) (bs : List UInt8) (a m : Nat) (w : World) (ha : Rd w w.heap.size 1 A n (byts bs)) (hn : n ≤ 1048576) (hm : 0 < m) (hm2 : m ≤ 1048576) (ha2 : a ≤ 1048576) :
    Calls Tryz.prog 10 #[.slice A n c, .int .i64 (a : Int), .int .i64 (m : Int)] w fun e w' => ∃ x : Nat, x < m ∧ e = .returned (.int .i64 (x : Int)) ∧ w = w' := by
  by_cases h : a < n
  · have i1 : ¬ (n : Int) ≤ (a : Int) := by omega
    have i2 : ¬ (m : Int) < 1 := by omega
    have i3 : (a : Int) < (n : Int) := by omega
    have i4 : ¬ (m : Int) = 0 := by omega
    have hbl : bs.length = n := by have := ha.len; rw [byts_length] at this; omega
    obtain ⟨b, off, rfl, hb, hcell⟩ := ha.at_ h
    obtain ⟨v, hv⟩ : ∃ v : Nat, v = (bs[a]'(by omega)).toNat := ⟨_, rfl⟩
    have hv255 : v ≤ 255 := by have := (bs[a]'(by omega)).toNat_lt; omega
    have d1 := hcell a _ (byts_get bs a (by omega))
    rw [← hv] at d1
    have z1 : Int.tmod (v : Int) (m : Int) = ((v % m : Nat) : Int) := by rw [← Int.ofNat_tmod]
    have hlt := Nat.mod_lt v hm
    have z2 : IntKind.i64.wrap ((v % m : Nat) : Int) = ((v % m : Nat) : Int) := by rw [IntKind.wrap_i64]; omega
    clear hcell hv
    go_enter Tryz.func10, Tryz.ntmps10
    go_wp2
    go_ret
    exact ⟨v % m, hlt, rfl, rfl⟩
  · have i1 : (n : Int) ≤ (a : Int) := by omega
    go_enter Tryz.func10, Tryz.ntmps10
    go_wp2
    go_ret
    exact ⟨0, hm, rfl, rfl⟩
def a2W (L : List (List Int)) : Nat := if L.length = 0 then 1 else wid0 L
theorem a2Width_any (D : Option Addr) (c : Nat) (hs : List Hd) (w : World) (ha : RdD w w.heap.size D hs) (hl : hs.length ≤ 1048576) :
    Calls Tryz.prog 38 #[.slice D hs.length c] w fun e w' => e = .returned (.int .i64 (a2W (cards hs) : Int)) ∧ w = w' := by
  by_cases h : hs.length = 0
  · have HW := Lib.hid (show a2W (cards hs) = 1 by unfold a2W; rw [cards_length, if_pos h])
    have i1 : (hs.length : Int) = 0 := by omega
    go_enter Tryz.func38, Tryz.ntmps38
    go_wp2
    go_ret
    exact ⟨by rw [HW.out]; rfl, rfl⟩
  · have HW := Lib.hid (show a2W (cards hs) = hs[0].xs.length by unfold a2W; rw [cards_length, if_neg h, wid0_cards (by omega)])
    have i1 : ¬ (hs.length : Int) = 0 := by omega
    have i2 : (0 : Int) < (hs.length : Int) := by omega
    obtain ⟨b, off, hD, hb, hcell⟩ := ha.at_ (show 0 < hs.length by omega)
    have k1 := hcell 0 (by omega)
    rw [Nat.add_zero] at k1
    subst hD
    clear hcell
    go_enter Tryz.func38, Tryz.ntmps38
    go_wp2
    go_ret
    exact ⟨by rw [HW.out]; rfl, rfl⟩

theorem good_deck {wd : Nat} {L : List (List Int)} (h : GoodD wd L) (h1 : 1 ≤ wd) (h2 : wd ≤ 20) (h3 : L.length ≤ 40) : deckOk L = true ∧ (0 < L.length → wid0 L = wd) := by
  have hw : 0 < L.length → wid0 L = wd := by
    intro h0
    cases L with
    | nil => simp at h0
    | cons x L => exact (h x (List.mem_cons_self ..)).1
  refine ⟨?_, hw⟩
  unfold deckOk
  rw [decide_eq_true h3, Bool.and_true]
  refine List.all_eq_true.2 fun x hx => ?_
  obtain ⟨g1, _, g3⟩ := h x hx
  unfold deckP cardOk
  rw [g1, g3, hw (List.length_pos_of_mem hx), insideB_mk (by omega) (by omega)]
  simp
theorem good_part {wd : Nat} {x : List Int} (h : GoodX wd x) (a b : Int) : legalL (part x a b) = true := by
  refine List.all_eq_true.2 fun m hm => List.all_eq_true.1 h.2.1 m ?_
  exact List.mem_of_mem_drop (List.mem_of_mem_take hm)
theorem good_have {wd : Nat} {L : List (List Int)} (h : GoodD wd L) (a b : Int) : haveF L a b = true :=
  List.all_eq_true.2 fun x hx => good_part (h x hx) a b
theorem good_w {wd : Nat} {L : List (List Int)} (h : GoodD wd L) (h1 : 1 ≤ wd) (h2 : wd ≤ 20) (h3 : L.length ≤ 40) : 1 ≤ a2W L ∧ a2W L ≤ deckW L ∧ a2W L ≤ wd := by
  have := (good_deck h h1 h2 h3).2
  unfold a2W deckW
  by_cases h0 : L.length = 0
  · rw [if_pos h0, if_pos h0]; omega
  · rw [if_neg h0, if_neg h0, this (by omega)]; omega
theorem good_codeK {wd : Nat} {L : List (List Int)} {i j : Nat} (h : GoodD wd L) (h1 : 1 ≤ wd) (h2 : wd ≤ 20) (h3 : L.length ≤ 40) (hij : i < j) (hj : j ≤ a2W L) : codeK L (i : Int) (j : Int) = 0 := by
  have hw := good_w h h1 h2 h3
  have hf : fieldOk (i : Int) (j : Int) (deckW L : Int) = true := by
    unfold fieldOk
    simp
    omega
  unfold codeK
  rw [if_pos (good_deck h h1 h2 h3).1, if_pos hf, if_pos (good_have h _ _)]
theorem good_tot {wd : Nat} {hs : List Hd} (h : GoodD wd (cards hs)) (h2 : wd ≤ 20) (h3 : hs.length ≤ 40) : hs.length + tot hs ≤ 840 := by
  have : tot hs ≤ hs.length * 20 := tot_le fun x hx => by
    have := (h x.xs (List.mem_map.2 ⟨x, hx, rfl⟩)).1
    omega
  omega

theorem a2Field_any (D : Option Addr) (c : Nat) (hs : List Hd) (wd : Nat) (A : Option Addr) (n d : Nat) (bs : List UInt8) (w : World) (ha : RdD w w.heap.size D hs) (hg : GoodD wd (cards hs)) (h1 : 1 ≤ wd) (h2 : wd ≤ 20) (h3 : hs.length ≤ 40) (hb : Rd w w.heap.size 1 A n (byts bs)) (hn : n ≤ 1048576) :
    Calls Tryz.prog 7 #[.slice D hs.length c, .slice A n d] w fun e w' => ∃ i j : Nat, i < j ∧ j ≤ a2W (cards hs) ∧ e = .returned (.agg #[.int .i64 (i : Int), .int .i64 (j : Int)]) ∧ Below w.heap.size w w' := by
  obtain ⟨q1, q2, q3⟩ := good_w hg h1 h2 (by rw [cards_length]; exact h3)
  obtain ⟨W, hW⟩ : ∃ W, W = a2W (cards hs) := ⟨_, rfl⟩
  have HW := Lib.hid hW
  rw [← hW] at q1 q2 q3 ⊢
  clear hW
  go_enter Tryz.func7, Tryz.ntmps7
  go_wp2_with fail
  refine (a2Width_any D c hs _ (ha.a1 _) (by omega)).mono ?_; rintro e w1 ⟨rfl, rfl⟩
  rw [← HW.out]
  go_wp2_with fail
  refine (a2At_any A n d bs 0 W _ (hb.a1 _) hn (by omega) (by omega) (by omega)).mono ?_
  rintro e w2 ⟨x, hx, rfl, rfl⟩
  have z1 : IntKind.i64.wrap ((x : Int) + 1) = (x : Int) + 1 := by rw [IntKind.wrap_i64]; omega
  have z2 : IntKind.i64.wrap ((W : Int) - (x : Int)) = ((W - x : Nat) : Int) := by rw [IntKind.wrap_i64]; omega
  go_wp2_with fail
  refine (a2At_any A n d bs 1 (W - x) _ (hb.a1 _) hn (by omega) (by omega) (by omega)).mono ?_
  rintro e w3 ⟨y, hy, rfl, rfl⟩
  have z3 : IntKind.i64.wrap ((x : Int) + 1 + (y : Int)) = ((x + 1 + y : Nat) : Int) := by rw [IntKind.wrap_i64]; omega
  go_wp2
  refine bodyPost_ret (v := .agg #[.int .i64 (x : Int), .int .i64 ((x + 1 + y : Nat) : Int)]) (by simp [results, Tryz.results7, go_sem, *]) rfl ⟨x, x + 1 + y, by omega, by omega, rfl, ?_⟩
  first
    | exact ba (b0 _) _
    | exact bset (ba (b0 _) _) _ _ _ (Nat.le_refl _)
    | exact bset (bset (ba (b0 _) _) _ _ _ (Nat.le_refl _)) _ _ _ (Nat.le_refl _)

/-! ### the same, compared; in the reference -/
theorem l00Same_eq (A A' : Option Addr) (c c' : Nat) (xs ys : List Int) (w : World) (h : xs = ys) (ha : Rd w w.heap.size 1 A xs.length (ints xs)) (hb : Rd w w.heap.size 1 A' ys.length (ints ys)) (hl : xs.length ≤ 1048576) :
    Calls Tryz.prog 92 #[.slice A xs.length c, .slice A' ys.length c'] w fun e w' => e = .returned (.bool true) ∧ Below w.heap.size w w' := by
  have := l00Same_any A A' c c' xs ys w ha hb hl (by rw [← h]; exact hl)
  rwa [decide_eq_true h] at this
theorem spSameCard_eq (A A' : Option Addr) (c c' : Nat) (xs ys : List Int) (w : World) (h : xs = ys) (ha : Rd w w.heap.size 1 A xs.length (ints xs)) (hb : Rd w w.heap.size 1 A' ys.length (ints ys)) (hl : xs.length ≤ 1048576) :
    Calls Tryz.prog 32 #[.agg #[.slice A xs.length c], .agg #[.slice A' ys.length c']] w fun e w' => e = .returned (.bool true) ∧ Below w.heap.size w w' := by
  have H := Lib.hid h
  clear h
  go_enter Tryz.func32, Tryz.ntmps32
  go_wp2_with fail
  refine (l00Same_eq A A' c c' xs ys _ H.out ((ha.a1 _).a1 _) ((hb.a1 _).a1 _) hl).mono ?_; rintro e w1 ⟨rfl, hb1⟩
  go_wp2
  go_ret
  exact ⟨rfl, bs (ba (ba (b0 _) _) _) hb1⟩

set_option maxHeartbeats 1000000 in
theorem spSameDeck_eq (D E : Option Addr) (c ce : Nat) (hs ks : List Hd) (w : World) (h : cards hs = cards ks) (ha : RdD w w.heap.size D hs) (hb : RdD w w.heap.size E ks) (hl : hs.length + tot hs ≤ 1048576) :
    Calls Tryz.prog 30 #[.slice D hs.length c, .slice E ks.length ce] w fun e w' => e = .returned (.bool true) ∧ Below w.heap.size w w' := by
  obtain ⟨hlen, hat⟩ := cards_same h
  have HAT := Lib.hid hat
  have HL := Lib.hid hlen
  have e0 : ((hs.length : Int) != (ks.length : Int)) = false := bne_f (by omega)
  have e1 : (hs.length : Int) = (ks.length : Int) := by omega
  have HE := Lib.hid e1
  clear h hat hlen e1
  go_enter Tryz.func30, Tryz.ntmps30
  go_wp2
  go_loopw [5] (fun q wr => ∃ k : Nat, k ≤ hs.length ∧ q = .int .i64 k ∧ Below w.heap.size w wr) (fun q _ => hs.length - (intOf q).toNat)
  case atStart => exact ⟨0, Nat.zero_le _, rfl, b0 _⟩
  case round =>
    obtain ⟨wo, rfl⟩ : ∃ wo : World, wo = wr := ⟨_, rfl⟩
    obtain ⟨k, hk, rfl, hbw⟩ := hrel
    by_cases hlt : k < hs.length
    · have hlt' : k < ks.length := by have := HL.out; omega
      have HQ := Lib.hid (HAT.out k hlt hlt')
      have raw := ha.up hbw
      have rbw := hb.up hbw
      have rc := raw.card_at hlt
      have rc' := rbw.card_at hlt'
      have hlc : hs[k].xs.length ≤ 1048576 := by have := tot_at hs k hlt; omega
      obtain ⟨b1, o1, hD, _, hc1⟩ := raw.at_ hlt
      obtain ⟨b2, o2, hE, _, hc2⟩ := rbw.at_ hlt'
      have d1 := hc1 k hlt
      have d2 := hc2 k hlt'
      have i1 : (k : Int) < (hs.length : Int) := by omega
      have i2 : (k : Int) < (ks.length : Int) := by omega
      have l1 := fun x : Later wo => lat_cell x d1
      have l2 := fun x : Later wo => lat_cell x d2
      subst hD
      subst hE
      clear hc1 hc2 raw rbw d1 d2
      go_wp2_with fail
      refine wp_region_later (by kernel_rfl) (by kernel_rfl) ?_
      repeat (go_big_quiet_step ((go_at_call 92; exact lat_call (l00Same_eq _ _ _ _ _ _ _ HQ.out (lat_rd _ rc) (lat_rd _ rc') hlc))))
      refine wpQuiet_nil ?_
      intro w4 hb4
      have HB4 := Lib.hid (bs hbw hb4)
      clear l1 l2 hb4 hbw rc rc'
      go_wp2
      go_roundw
      case rel => exact ⟨k + 1, by omega, by go_num, HB4.out⟩
      case measure => (simp [intOf]; try omega)
    · obtain rfl : k = hs.length := by omega
      go_wp2
      go_ret
      exact ⟨rfl, hbw⟩

end Go.Proofs.YtmfoaggohlfflaaGreatDoor
