/- What the laws over drawn decks share: their sizes, numbers out of bytes, fields; comparing, cards and decks that are the same, in the reference. -/
import Derived.Test.YtdppmlchabogaaaDrawAll
import Derived.Test.YtdppmlchabogaaaSame
import Derived.Test.YtdppmlchabogaaaLater
namespace Go.Proofs.Ytdppmlchabogaaa
open Go.RowKit

/-! ### the draws' sources -/
theorem l00From_any (A : Option Addr) (n c : Nat) (bs : List UInt8) (w : World) (ha : Rd w w.heap.size 1 A n (byts bs)) (hn : n ≤ 1048576) :
    Calls Try.prog 112 #[.slice A n c] w fun e w' => ∃ p, w.heap.size ≤ p ∧ e = .returned (.pointer (some ⟨p, 0, none⟩)) ∧ SrcK w' p 0 ∧ Below w.heap.size w w' := by
  go_enter Try.func112, Try.ntmps112
  go_wp2
  go_ret
  refine ⟨w.heap.size, Nat.le_refl _, rfl, ⟨A, n, c, 0, bs, 0, cell_new rfl rfl, cell_new rfl rfl, cell_new rfl rfl, froz_new rfl, froz_new rfl, ha.alloc (Nat.le_refl _) _, hn, Nat.le_refl _⟩, ba (b0 w) _⟩

theorem A2Deck_any (A : Option Addr) (n c : Nat) (bs : List UInt8) (w : World) (ha : Rd w w.heap.size 1 A n (byts bs)) (hn : n ≤ 1048576) :
    Calls Try.prog 14 #[.slice A n c] w fun e w' => ∃ D cd gs wd, e = .returned (.slice D gs.length cd) ∧ gs.length ≤ 8 ∧ 1 ≤ wd ∧ wd ≤ 3 ∧ GoodD wd (cards gs) ∧
      ObD w' w.heap.size w'.heap.size 37 2 D cd gs ∧ Below w.heap.size w w' := by
  go_enter Try.func14, Try.ntmps14
  go_wp2_with fail
  refine (l00From_any A n c bs _ ha hn).mono ?_; rintro e w1 ⟨p, hp, rfl, hs1, hb1⟩
  have z1 := hb1.size
  go_wp2_with fail
  refine (pick_any p 0 3 _ hs1 (by omega) (by omega)).mono ?_
  rintro e w2 ⟨x, hx, rfl, hs2, hc2⟩
  have hx3 : x < 3 := by omega
  have HB2 := Lib.hid (hc2.below hb1 hp z1)
  have zw : IntKind.i64.wrap (1 + (x : Int)) = ((1 + x : Nat) : Int) := by rw [IntKind.wrap_i64]; omega
  clear hx hc2 hb1 hs1
  go_wp2_with fail
  refine (l07Draw_any p 2 (1 + x) 8 _ hs2 (by omega) (by omega) (by omega)).mono ?_
  rintro e w3 ⟨D, cd, gs, rfl, hg8, hgd, hob, hs3, hc3⟩
  have HB3 := Lib.hid (hc3.below HB2.out hp HB2.out.size)
  have HZ2 := Lib.hid HB2.out.size
  clear hs2 hs3 hc3
  go_wp2
  go_ret
  exact ⟨D, cd, gs, 1 + x, rfl, hg8, by omega, by omega, hgd, hob.mono HZ2.out (Nat.le_refl _), HB3.out⟩

/-! ### numbers out of bytes -/
theorem a2Long_no (A B : Option Addr) (n c m d : Nat) (w : World) (h1 : ¬ 3000 < n) (h2 : ¬ 3000 < m) :
    Calls Try.prog 13 #[.slice A n c, .slice B m d] w fun e w' => e = .returned (.bool false) ∧ w = w' := by
  have i1 : ¬ (3000 : Int) < (n : Int) := by omega
  have i2 : ¬ (3000 : Int) < (m : Int) := by omega
  go_enter Try.func13, Try.ntmps13
  go_wp2
  go_ret
  exact ⟨rfl, rfl⟩
theorem a2Long_yes (A B : Option Addr) (n c m d : Nat) (w : World) (h1 : 3000 < n ∨ 3000 < m) :
    Calls Try.prog 13 #[.slice A n c, .slice B m d] w fun e w' => e = .returned (.bool true) ∧ w = w' := by
  by_cases h : 3000 < n
  · have i1 : (3000 : Int) < (n : Int) := by omega
    go_enter Try.func13, Try.ntmps13
    go_wp2
    go_ret
    exact ⟨rfl, rfl⟩
  · have i1 : ¬ (3000 : Int) < (n : Int) := by omega
    have i2 : (3000 : Int) < (m : Int) := by omega
    go_enter Try.func13, Try.ntmps13
    go_wp2
    go_ret
    exact ⟨rfl, rfl⟩
theorem a2At_any (A : Option Addr) (n c : Nat) (bs : List UInt8) (a m : Nat) (w : World) (ha : Rd w w.heap.size 1 A n (byts bs)) (hn : n ≤ 1048576) (hm : 0 < m) (hm2 : m ≤ 1048576) (ha2 : a ≤ 1048576) :
    Calls Try.prog 28 #[.slice A n c, .int .i64 (a : Int), .int .i64 (m : Int)] w fun e w' => ∃ x : Nat, x < m ∧ e = .returned (.int .i64 (x : Int)) ∧ w = w' := by
  by_cases h : a < n
  · have i1 : ¬ (n : Int) ≤ (a : Int) := by omega
    have i2 : ¬ (m : Int) < 1 := by omega
    have i3 : (a : Int) < (n : Int) := by omega
    have i4 : ¬ (m : Int) = 0 := by omega
    have hbl : bs.length = n := by have := ha.len; rw [byts_length] at this; omega
    obtain ⟨b, off, rfl, hb, hcell⟩ := ha.at_ h
    obtain ⟨v, hv⟩ : ∃ v : Nat, v = (bs[a]'(by omega)).toNat := ⟨_, rfl⟩
    have hv255 : v ≤ 255 := by have := (bs[a]'(by omega)).toNat_lt; omega
    have d1 := hcell a _ (byts_get bs a (by omega))
    rw [← hv] at d1
    have z1 : Int.tmod (v : Int) (m : Int) = ((v % m : Nat) : Int) := by rw [← Int.ofNat_tmod]
    have hlt := Nat.mod_lt v hm
    have z2 : IntKind.i64.wrap ((v % m : Nat) : Int) = ((v % m : Nat) : Int) := by rw [IntKind.wrap_i64]; omega
    clear hcell hv
    go_enter Try.func28, Try.ntmps28
    go_wp2
    go_ret
    exact ⟨v % m, hlt, rfl, rfl⟩
  · have i1 : (n : Int) ≤ (a : Int) := by omega
    go_enter Try.func28, Try.ntmps28
    go_wp2
    go_ret
    exact ⟨0, hm, rfl, rfl⟩
def a2W (L : List (List Int)) : Nat := if L.length = 0 then 1 else wid0 L
theorem a2Width_any (D : Option Addr) (c : Nat) (hs : List Hd) (w : World) (ha : RdD w w.heap.size D hs) (hl : hs.length ≤ 1048576) :
    Calls Try.prog 29 #[.slice D hs.length c] w fun e w' => e = .returned (.int .i64 (a2W (cards hs) : Int)) ∧ w = w' := by
  by_cases h : hs.length = 0
  · have HW := Lib.hid (show a2W (cards hs) = 1 by unfold a2W; rw [cards_length, if_pos h])
    have i1 : (hs.length : Int) = 0 := by omega
    go_enter Try.func29, Try.ntmps29
    go_wp2
    go_ret
    exact ⟨by rw [HW.out]; rfl, rfl⟩
  · have HW := Lib.hid (show a2W (cards hs) = hs[0].xs.length by unfold a2W; rw [cards_length, if_neg h, wid0_cards (by omega)])
    have i1 : ¬ (hs.length : Int) = 0 := by omega
    have i2 : (0 : Int) < (hs.length : Int) := by omega
    obtain ⟨b, off, hD, hb, hcell⟩ := ha.at_ (show 0 < hs.length by omega)
    have k1 := hcell 0 (by omega)
    rw [Nat.add_zero] at k1
    subst hD
    clear hcell
    go_enter Try.func29, Try.ntmps29
    go_wp2
    go_ret
    exact ⟨by rw [HW.out]; rfl, rfl⟩

theorem good_deck {wd : Nat} {L : List (List Int)} (h : GoodD wd L) (h1 : 1 ≤ wd) (h2 : wd ≤ 20) (h3 : L.length ≤ 40) : deckOk L = true ∧ (0 < L.length → wid0 L = wd) := by
  have hw : 0 < L.length → wid0 L = wd := by
    intro h0
    cases L with
    | nil => simp at h0
    | cons x L => exact (h x (List.mem_cons_self ..)).1
  refine ⟨?_, hw⟩
  unfold deckOk
  rw [decide_eq_true h3, Bool.and_true]
  refine List.all_eq_true.2 fun x hx => ?_
  obtain ⟨g1, _, g3⟩ := h x hx
  unfold deckP cardOk
  rw [g1, g3, hw (List.length_pos_of_mem hx), insideB_mk (by omega) (by omega)]
  simp
theorem good_part {wd : Nat} {x : List Int} (h : GoodX wd x) (a b : Int) : legalL (part x a b) = true := by
  refine List.all_eq_true.2 fun m hm => List.all_eq_true.1 h.2.1 m ?_
  exact List.mem_of_mem_drop (List.mem_of_mem_take hm)
theorem good_have {wd : Nat} {L : List (List Int)} (h : GoodD wd L) (a b : Int) : haveF L a b = true :=
  List.all_eq_true.2 fun x hx => good_part (h x hx) a b
theorem good_w {wd : Nat} {L : List (List Int)} (h : GoodD wd L) (h1 : 1 ≤ wd) (h2 : wd ≤ 20) (h3 : L.length ≤ 40) : 1 ≤ a2W L ∧ a2W L ≤ deckW L ∧ a2W L ≤ wd := by
  have := (good_deck h h1 h2 h3).2
  unfold a2W deckW
  by_cases h0 : L.length = 0
  · rw [if_pos h0, if_pos h0]; omega
  · rw [if_neg h0, if_neg h0, this (by omega)]; omega
theorem good_codeK {wd : Nat} {L : List (List Int)} {i j : Nat} (h : GoodD wd L) (h1 : 1 ≤ wd) (h2 : wd ≤ 20) (h3 : L.length ≤ 40) (hij : i < j) (hj : j ≤ a2W L) : codeK L (i : Int) (j : Int) = 0 := by
  have hw := good_w h h1 h2 h3
  have hf : fieldOk (i : Int) (j : Int) (deckW L : Int) = true := by
    unfold fieldOk
    simp
    omega
  unfold codeK
  rw [if_pos (good_deck h h1 h2 h3).1, if_pos hf, if_pos (good_have h _ _)]
theorem good_tot {wd : Nat} {hs : List Hd} (h : GoodD wd (cards hs)) (h2 : wd ≤ 20) (h3 : hs.length ≤ 40) : hs.length + tot hs ≤ 840 := by
  have : tot hs ≤ hs.length * 20 := tot_le fun x hx => by
    have := (h x.xs (List.mem_map.2 ⟨x, hx, rfl⟩)).1
    omega
  omega

theorem a2Field_any (D : Option Addr) (c : Nat) (hs : List Hd) (wd : Nat) (A : Option Addr) (n d : Nat) (bs : List UInt8) (w : World) (ha : RdD w w.heap.size D hs) (hg : GoodD wd (cards hs)) (h1 : 1 ≤ wd) (h2 : wd ≤ 20) (h3 : hs.length ≤ 40) (hb : Rd w w.heap.size 1 A n (byts bs)) (hn : n ≤ 1048576) :
    Calls Try.prog 15 #[.slice D hs.length c, .slice A n d] w fun e w' => ∃ i j : Nat, i < j ∧ j ≤ a2W (cards hs) ∧ e = .returned (.agg #[.int .i64 (i : Int), .int .i64 (j : Int)]) ∧ Below w.heap.size w w' := by
  obtain ⟨q1, q2, q3⟩ := good_w hg h1 h2 (by rw [cards_length]; exact h3)
  obtain ⟨W, hW⟩ : ∃ W, W = a2W (cards hs) := ⟨_, rfl⟩
  have HW := Lib.hid hW
  rw [← hW] at q1 q2 q3 ⊢
  clear hW
  go_enter Try.func15, Try.ntmps15
  go_wp2_with fail
  refine (a2Width_any D c hs _ (ha.a1 _) (by omega)).mono ?_; rintro e w1 ⟨rfl, rfl⟩
  rw [← HW.out]
  go_wp2_with fail
  refine (a2At_any A n d bs 0 W _ (hb.a1 _) hn (by omega) (by omega) (by omega)).mono ?_
  rintro e w2 ⟨x, hx, rfl, rfl⟩
  have z1 : IntKind.i64.wrap ((x : Int) + 1) = (x : Int) + 1 := by rw [IntKind.wrap_i64]; omega
  have z2 : IntKind.i64.wrap ((W : Int) - (x : Int)) = ((W - x : Nat) : Int) := by rw [IntKind.wrap_i64]; omega
  go_wp2_with fail
  refine (a2At_any A n d bs 1 (W - x) _ (hb.a1 _) hn (by omega) (by omega) (by omega)).mono ?_
  rintro e w3 ⟨y, hy, rfl, rfl⟩
  have z3 : IntKind.i64.wrap ((x : Int) + 1 + (y : Int)) = ((x + 1 + y : Nat) : Int) := by rw [IntKind.wrap_i64]; omega
  go_wp2
  refine bodyPost_ret (v := .agg #[.int .i64 (x : Int), .int .i64 ((x + 1 + y : Nat) : Int)]) (by simp [results, Try.results15, go_sem, *]) rfl ⟨x, x + 1 + y, by omega, by omega, rfl, ?_⟩
  first
    | exact ba (b0 _) _
    | exact bset (ba (b0 _) _) _ _ _ (Nat.le_refl _)
    | exact bset (bset (ba (b0 _) _) _ _ _ (Nat.le_refl _)) _ _ _ (Nat.le_refl _)

/-! ### the same, compared; in the reference -/
theorem l02Field_zz (a b n : Int) (r : Bool) (hr : r = fieldOk a b n) (w : World) :
    Calls Try.prog 120 #[.agg #[.int .i64 a, .int .i64 b], .int .i64 n] w fun e w' => e = .returned (.bool r) ∧ Below w.heap.size w w' := by
  subst hr
  exact l02Field_any a b n w
theorem l03Compare_zz (s t : List UInt8) (z : Int) (w : World) (hz : z = cmpT s t) (hst : s.length = t.length) (hl : s.length ≤ 1048576) :
    Calls Try.prog 122 #[.string (bs_ s), .string (bs_ t)] w fun e w' => e = .returned (.int .i64 z) ∧ w = w' := by
  subst hz
  exact l03Compare_l s t w hst hl
theorem l00Same_eq (A A' : Option Addr) (c c' : Nat) (xs ys : List Int) (w : World) (h : xs = ys) (ha : Rd w w.heap.size 1 A xs.length (ints xs)) (hb : Rd w w.heap.size 1 A' ys.length (ints ys)) (hl : xs.length ≤ 1048576) :
    Calls Try.prog 118 #[.slice A xs.length c, .slice A' ys.length c'] w fun e w' => e = .returned (.bool true) ∧ Below w.heap.size w w' := by
  have := l00Same_any A A' c c' xs ys w ha hb hl (by rw [← h]; exact hl)
  rwa [decide_eq_true h] at this
theorem spSameCard_eq (A A' : Option Addr) (c c' : Nat) (xs ys : List Int) (w : World) (h : xs = ys) (ha : Rd w w.heap.size 1 A xs.length (ints xs)) (hb : Rd w w.heap.size 1 A' ys.length (ints ys)) (hl : xs.length ≤ 1048576) :
    Calls Try.prog 18 #[.agg #[.slice A xs.length c], .agg #[.slice A' ys.length c']] w fun e w' => e = .returned (.bool true) ∧ Below w.heap.size w w' := by
  have H := Lib.hid h
  clear h
  go_enter Try.func18, Try.ntmps18
  go_wp2_with fail
  refine (l00Same_eq A A' c c' xs ys _ H.out ((ha.a1 _).a1 _) ((hb.a1 _).a1 _) hl).mono ?_; rintro e w1 ⟨rfl, hb1⟩
  go_wp2
  go_ret
  exact ⟨rfl, bs (ba (ba (b0 _) _) _) hb1⟩

set_option maxHeartbeats 1000000 in
theorem spSameDeck_eq (D E : Option Addr) (c ce : Nat) (hs ks : List Hd) (w : World) (h : cards hs = cards ks) (ha : RdD w w.heap.size D hs) (hb : RdD w w.heap.size E ks) (hl : hs.length + tot hs ≤ 1048576) :
    Calls Try.prog 25 #[.slice D hs.length c, .slice E ks.length ce] w fun e w' => e = .returned (.bool true) ∧ Below w.heap.size w w' := by
  obtain ⟨hlen, hat⟩ := cards_same h
  have HAT := Lib.hid hat
  have HL := Lib.hid hlen
  have e0 : ((hs.length : Int) != (ks.length : Int)) = false := bne_f (by omega)
  have e1 : (hs.length : Int) = (ks.length : Int) := by omega
  have HE := Lib.hid e1
  clear h hat hlen e1
  go_enter Try.func25, Try.ntmps25
  go_wp2
  go_loopw [5] (fun q wr => ∃ k : Nat, k ≤ hs.length ∧ q = .int .i64 k ∧ Below w.heap.size w wr) (fun q _ => hs.length - (intOf q).toNat)
  case atStart => exact ⟨0, Nat.zero_le _, rfl, b0 _⟩
  case round =>
    obtain ⟨wo, rfl⟩ : ∃ wo : World, wo = wr := ⟨_, rfl⟩
    obtain ⟨k, hk, rfl, hbw⟩ := hrel
    by_cases hlt : k < hs.length
    · have hlt' : k < ks.length := by have := HL.out; omega
      have HQ := Lib.hid (HAT.out k hlt hlt')
      have raw := ha.up hbw
      have rbw := hb.up hbw
      have rc := raw.card_at hlt
      have rc' := rbw.card_at hlt'
      have hlc : hs[k].xs.length ≤ 1048576 := by have := tot_at hs k hlt; omega
      obtain ⟨b1, o1, hD, _, hc1⟩ := raw.at_ hlt
      obtain ⟨b2, o2, hE, _, hc2⟩ := rbw.at_ hlt'
      have d1 := hc1 k hlt
      have d2 := hc2 k hlt'
      have i1 : (k : Int) < (hs.length : Int) := by omega
      have i2 : (k : Int) < (ks.length : Int) := by omega
      have l1 := fun x : Later wo => lat_cell x d1
      have l2 := fun x : Later wo => lat_cell x d2
      subst hD
      subst hE
      clear hc1 hc2 raw rbw d1 d2
      go_wp2_with fail
      refine wp_region_later (by kernel_rfl) (by kernel_rfl) ?_
      repeat (go_big_quiet_step ((go_at_call 118; exact lat_call (l00Same_eq _ _ _ _ _ _ _ HQ.out (lat_rd _ rc) (lat_rd _ rc') hlc))))
      refine wpQuiet_nil ?_
      intro w4 hb4
      have HB4 := Lib.hid (bs hbw hb4)
      clear l1 l2 hb4 hbw rc rc'
      go_wp2
      go_roundw
      case rel => exact ⟨k + 1, by omega, by go_num, HB4.out⟩
      case measure => (simp [intOf]; try omega)
    · obtain rfl : k = hs.length := by omega
      go_wp2
      go_ret
      exact ⟨rfl, hbw⟩

set_option maxRecDepth 20000 in
set_option maxHeartbeats 2000000 in
theorem spCompareFields_good (A B : Option Addr) (ca cb : Nat) (xs ys : List Int) (i j wd : Nat) (z : Int) (w : World) (hz : z = cmpR (part xs (i : Int) (j : Int)) (part ys (i : Int) (j : Int))) (hx : GoodX wd xs) (hy : GoodX wd ys) (h1 : 1 ≤ wd) (h20 : wd ≤ 20) (hij : i < j) (hj : j ≤ wd)
    (ra : Rd w w.heap.size 1 A xs.length (ints xs)) (rb : Rd w w.heap.size 1 B ys.length (ints ys)) (hca : xs.length ≤ ca) (hcb : ys.length ≤ cb) :
    Calls Try.prog 19 #[.agg #[.slice A xs.length ca], .agg #[.slice B ys.length cb], .agg #[.int .i64 (i : Int), .int .i64 (j : Int)]] w fun e w' => e = .returned (.tuple #[.int .i64 z, .int .i64 0]) ∧ Below w.heap.size w w' := by
  obtain ⟨W, hW⟩ : ∃ W, W = ((w.alloc (.cells #[.slice A xs.length ca] 37)).alloc (.cells #[.slice B ys.length cb] 37)).alloc (.cells #[.int .i64 (i : Int), .int .i64 (j : Int)] 27) := ⟨_, rfl⟩
  have T0 : Below w.heap.size w W := by rw [hW]; exact ba (ba (ba (b0 w) _) _) _
  have k1 : W.cell? ⟨w.heap.size, 0, none⟩ = some (.slice A xs.length ca) := by rw [hW]; exact cell_alloc (cell_alloc (cell_new rfl rfl) _) _
  have k2 : W.cell? ⟨w.heap.size + 1, 0, none⟩ = some (.slice B ys.length cb) := by rw [hW]; exact cell_alloc (cell_new (by simp) rfl) _
  have k3 : W.cell? ⟨w.heap.size + 1 + 1, 0, none⟩ = some (.int .i64 (i : Int)) := by rw [hW]; exact cell_new (by simp) rfl
  have k4 : W.cell? ⟨w.heap.size + 1 + 1, 1, none⟩ = some (.int .i64 (j : Int)) := by rw [hW]; exact cell_new (by simp) rfl
  have ra1 : Rd W W.heap.size 1 A xs.length (ints xs) := by rw [hW]; exact ((ra.a1 _).a1 _).a1 _
  have rb1 : Rd W W.heap.size 1 B ys.length (ints ys) := by rw [hW]; exact ((rb.a1 _).a1 _).a1 _
  have HW := Lib.hid hW
  have HX := Lib.hid hx.1
  have HY := Lib.hid hy.1
  have HCX := Lib.hid (show cardOk xs = true by unfold cardOk; rw [hx.2.2, insideB_mk (by have := hx.1; omega) (by have := hx.1; omega)]; rfl)
  have HCY := Lib.hid (show cardOk ys = true by unfold cardOk; rw [hy.2.2, insideB_mk (by have := hy.1; omega) (by have := hy.1; omega)]; rfl)
  have HLX := Lib.hid (good_part hx (i : Int) (j : Int))
  have HLY := Lib.hid (good_part hy (i : Int) (j : Int))
  have HFX := Lib.hid (show true = fieldOk (i : Int) (j : Int) (xs.length : Int) by have := hx.1; unfold fieldOk; simp; omega)
  have HFY := Lib.hid (show true = fieldOk (i : Int) (j : Int) (ys.length : Int) by have := hy.1; unfold fieldOk; simp; omega)
  obtain ⟨s, hs⟩ : ∃ s, s = textL (part xs (i : Int) (j : Int)) := ⟨_, rfl⟩
  obtain ⟨t, ht⟩ : ∃ t, t = textL (part ys (i : Int) (j : Int)) := ⟨_, rfl⟩
  have HS := Lib.hid hs
  have HT := Lib.hid ht
  have HST := Lib.hid (show s.length = t.length by rw [hs, ht, textL_length, textL_length, part_len hij (by have := hx.1; omega), part_len hij (by have := hy.1; omega)])
  have HSL := Lib.hid (show s.length ≤ 1048576 by rw [hs, textL_length, part_len hij (by have := hx.1; omega)]; omega)
  have HZ := Lib.hid (show z = cmpT s t by rw [hz, hs, ht, cmpT_text HLX.out HLY.out])
  clear hW hz hx hy hs ht ra rb
  go_enter Try.func19, Try.ntmps19
  go_wp2_with fail
  rw [← HW.out]
  refine (l02Ok_any _ _ A ca xs _ k1 ra1 (by rw [HX.out]; omega)).mono ?_; rw [HCX.out]; rintro e w1 ⟨rfl, hb1⟩
  replace k1 := cell_later hb1 k1
  replace k2 := cell_later hb1 k2
  replace k3 := cell_later hb1 k3
  replace k4 := cell_later hb1 k4
  replace ra1 := ra1.up hb1
  replace rb1 := rb1.up hb1
  have T1 := bs T0 hb1
  clear hb1 T0
  go_wp2_with fail
  refine (l02Ok_any _ _ B cb ys _ k2 rb1 (by rw [HY.out]; omega)).mono ?_; rw [HCY.out]; rintro e w2 ⟨rfl, hb2⟩
  replace k1 := cell_later hb2 k1
  replace k2 := cell_later hb2 k2
  replace k3 := cell_later hb2 k3
  replace k4 := cell_later hb2 k4
  replace ra1 := ra1.up hb2
  replace rb1 := rb1.up hb2
  have T2 := bs T1 hb2
  clear hb2 T1
  go_wp2_with fail
  refine (l02Field_zz _ _ _ true HFX.out _).mono ?_; rintro e w3 ⟨rfl, hb3⟩
  replace k1 := cell_later hb3 k1
  replace k2 := cell_later hb3 k2
  replace k3 := cell_later hb3 k3
  replace k4 := cell_later hb3 k4
  replace ra1 := ra1.up hb3
  replace rb1 := rb1.up hb3
  have T3 := bs T2 hb3
  clear hb3 T2
  go_wp2_with fail
  refine (l02Field_zz _ _ _ true HFY.out _).mono ?_; rintro e w4 ⟨rfl, hb4⟩
  replace k1 := cell_later hb4 k1
  replace k2 := cell_later hb4 k2
  replace k3 := cell_later hb4 k3
  replace k4 := cell_later hb4 k4
  replace ra1 := ra1.up hb4
  replace rb1 := rb1.up hb4
  have T4 := bs T3 hb4
  clear hb4 T3
  go_wp2_with fail
  refine (l03Key_yes _ _ A ca xs i j s _ HS.out HLX.out k1 ra1 hij (by rw [HX.out]; omega) hca (by rw [HX.out]; omega)).mono ?_; rintro e w5 ⟨rfl, hb5⟩
  replace k2 := cell_later hb5 k2
  replace k3 := cell_later hb5 k3
  replace k4 := cell_later hb5 k4
  replace rb1 := rb1.up hb5
  have T5 := bs T4 hb5
  clear hb5 T4 k1 ra1
  go_wp2_with fail
  refine (l03Key_yes _ _ B cb ys i j t _ HT.out HLY.out k2 rb1 hij (by rw [HY.out]; omega) hcb (by rw [HY.out]; omega)).mono ?_; rintro e w6 ⟨rfl, hb6⟩
  have T6 := bs T5 hb6
  clear hb6 T5 k2 k3 k4 rb1
  go_wp2_with fail
  refine (l03Compare_zz s t z _ HZ.out HST.out HSL.out).mono ?_; rintro e w7 ⟨rfl, rfl⟩
  go_wp2
  go_ret2
  exact ⟨rfl, T6⟩
end Go.Proofs.Ytdppmlchabogaaa
