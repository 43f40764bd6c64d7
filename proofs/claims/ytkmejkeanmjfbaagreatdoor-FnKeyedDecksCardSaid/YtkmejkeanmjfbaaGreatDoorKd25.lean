/- Draws of cards that are near to other ones. Equal columns: slices.Equal, SameCard; l00Same. l00Same: whether two lists of numbers are equal, in the reference. What the laws over drawn decks share: their sizes, numbers out of bytes, fields; comparing, cards and decks that are the same, in the reference. The draws of the laws on damages. -/
import Derived.Test.YtkmejkeanmjfbaaGreatDoorKd24
import Derived.Deep.RegionHeld3
import Derived.Test.YtkmejkeanmjfbaaGreatDoorKd5
import Derived.Test.YtkmejkeanmjfbaaGreatDoorKd1
import Derived.Test.YtkmejkeanmjfbaaGreatDoorKd16
import Derived.Test.YtkmejkeanmjfbaaGreatDoorKd7
/-! ### Damage -/
namespace Go.Proofs.YtkmejkeanmjfbaaGreatDoor
open Go.RowKit

/-- Behind some damages. -/
def DmR (p K n b5 : Nat) (w wr : World) (B : Option Addr) (d : Nat) (q : Value) : Prop := ∃ (k : Nat) (ys : List Int), k ≤ 3 ∧ q = .int .i64 k ∧ ys.length = n ∧ Ob wr (w.heap.size + 1) b5 2 1 (.slice B n d) n (ints ys) ∧ wr.cell? ⟨b5, 0, none⟩ = some (.slice B n d) ∧
  wr.cell? ⟨w.heap.size, 0, none⟩ = some (.slice none 0 0) ∧ wr.frozen? ⟨w.heap.size, 0, none⟩ = false ∧ Chg p (p + 1) w wr ∧ SrcK wr p (K + 2 + 8 * (3 - k)) ∧ b5 < wr.heap.size

end Go.Proofs.YtkmejkeanmjfbaaGreatDoor

/-! ### EqualInts -/
namespace Go.Proofs.YtkmejkeanmjfbaaGreatDoor
open Go.RowKit

theorem eq_take_succ {xs ys : List Int} {k : Nat} (h : xs.take k = ys.take k) (hx : k < xs.length) (hy : k < ys.length) (he : xs[k] = ys[k]) : xs.take (k + 1) = ys.take (k + 1) := by
  rw [List.take_succ_eq_append_getElem hx, List.take_succ_eq_append_getElem hy, h, he]

end Go.Proofs.YtkmejkeanmjfbaaGreatDoor

/-! ### Same -/
namespace Go.Proofs.YtkmejkeanmjfbaaGreatDoor
open Go.RowKit

set_option maxHeartbeats 1000000 in
theorem l00Same_any (A A' : Option Addr) (c c' : Nat) (xs ys : List Int) (w : World) (ha : Rd w w.heap.size 1 A xs.length (ints xs)) (hb : Rd w w.heap.size 1 A' ys.length (ints ys)) (hl : xs.length ≤ 1048576) (hl' : ys.length ≤ 1048576) :
    Calls Tryz.prog 66 #[.slice A xs.length c, .slice A' ys.length c'] w fun e w' => e = .returned (.bool (decide (xs = ys))) ∧ Below w.heap.size w w' := by
  by_cases he : ys.length = xs.length
  · have HE := Lib.hid he
    rw [he]
    clear he
    go_enter Tryz.func66, Tryz.ntmps66
    go_wp2
    go_loopw [5] (fun i wr => ∃ k : Nat, k ≤ xs.length ∧ i = .int .i64 k ∧ xs.take k = ys.take k ∧ Below w.heap.size w wr) (fun i _ => xs.length - (intOf i).toNat)
    case atStart => exact ⟨0, Nat.zero_le _, rfl, rfl, b0 _⟩
    case round =>
      obtain ⟨k, hk, rfl, htk, hbw⟩ := hrel
      have HT := Lib.hid htk
      clear htk
      by_cases hlt : k < xs.length
      · have hlt' : k < ys.length := by have := HE.out; omega
        obtain ⟨b, off, rfl, _, hc⟩ := (ha.up hbw).at_ hlt
        obtain ⟨b', off', rfl, _, hc'⟩ := (hb.up hbw).at_ hlt'
        have h1 := hc k _ (ints_get xs k hlt)
        have h2 := hc' k _ (ints_get ys k hlt')
        have i1 : (k : Int) < (ys.length : Int) := by omega
        have i0 : (k : Int) < (xs.length : Int) := by omega
        clear hc hc' ha hb
        by_cases hq : xs[k] = ys[k]
        · have HN := Lib.hid (eq_take_succ HT.out hlt hlt' hq)
          have hn : (xs[k] == ys[k]) = true := by simpa using hq
          have hn' : (xs[k] != ys[k]) = false := by simpa using hq
          clear hq
          go_wp2_with fail
          go_quiet (fail)
          go_wp2
          go_roundw
          case rel => exact ⟨k + 1, by omega, by go_num, HN.out, below_drewN hbw _⟩
          case measure => simp [intOf]; omega
        · have HN := Lib.hid (show decide (xs = ys) = false by
            rw [decide_eq_false_iff_not]
            rintro rfl
            exact hq rfl)
          have hn : (xs[k] == ys[k]) = false := by simpa using hq
          have hn' : (xs[k] != ys[k]) = true := by simpa using hq
          clear hq
          go_wp2_with fail
          go_quiet (fail)
          go_wp2
          go_ret
          exact ⟨ret_bool HN.out.symm, below_drewN hbw _⟩
      · obtain rfl : k = xs.length := by omega
        have HN := Lib.hid (show decide (xs = ys) = true by
          have := HT.out
          have h2 := HE.out
          rw [List.take_length, ← h2, List.take_length] at this
          simpa using this)
        go_wp2
        go_ret
        exact ⟨ret_bool HN.out.symm, hbw⟩
  · have HN := Lib.hid (show decide (xs = ys) = false by
      rw [decide_eq_false_iff_not]
      rintro rfl
      exact he rfl)
    have h1 : ((xs.length : Int) == (ys.length : Int)) = false := by simp; omega
    have h2 : ((xs.length : Int) != (ys.length : Int)) = true := by simp; omega
    have h3 : ¬ (xs.length : Int) = (ys.length : Int) := by omega
    have h4 : ¬ xs.length = ys.length := by omega
    clear he
    go_enter Tryz.func66, Tryz.ntmps66
    go_wp2
    go_ret
    exact ⟨ret_bool HN.out.symm, b0 _⟩

end Go.Proofs.YtkmejkeanmjfbaaGreatDoor

/-! ### A2 -/
namespace Go.Proofs.YtkmejkeanmjfbaaGreatDoor
open Go.RowKit

/-! ### the draws' sources -/
theorem l00From_any (A : Option Addr) (n c : Nat) (bs : List UInt8) (w : World) (ha : Rd w w.heap.size 1 A n (byts bs)) (hn : n ≤ 1048576) :
    Calls Tryz.prog 24 #[.slice A n c] w fun e w' => ∃ p, w.heap.size ≤ p ∧ e = .returned (.pointer (some ⟨p, 0, none⟩)) ∧ SrcK w' p 0 ∧ Below w.heap.size w w' := by
  go_enter Tryz.func24, Tryz.ntmps24
  go_wp2
  go_ret
  refine ⟨w.heap.size, Nat.le_refl _, rfl, ⟨A, n, c, 0, bs, 0, cell_new rfl rfl, cell_new rfl rfl, cell_new rfl rfl, froz_new rfl, froz_new rfl, ha.alloc (Nat.le_refl _) _, hn, Nat.le_refl _⟩, ba (b0 w) _⟩

/-! ### numbers out of bytes -/
def a2W (L : List (List Int)) : Nat := if L.length = 0 then 1 else wid0 L
theorem good_deck {wd : Nat} {L : List (List Int)} (h : GoodD wd L) (h1 : 1 ≤ wd) (h2 : wd ≤ 20) (h3 : L.length ≤ 40) : deckOk L = true ∧ (0 < L.length → wid0 L = wd) := by
  have hw : 0 < L.length → wid0 L = wd := by
    intro h0
    cases L with
    | nil => simp at h0
    | cons x L => exact (h x (List.mem_cons_self ..)).1
  refine ⟨?_, hw⟩
  unfold deckOk
  rw [decide_eq_true h3, Bool.and_true]
  refine List.all_eq_true.2 fun x hx => ?_
  obtain ⟨g1, _, g3⟩ := h x hx
  unfold deckP cardOk
  rw [g1, g3, hw (List.length_pos_of_mem hx), insideB_mk (by omega) (by omega)]
  simp
theorem good_part {wd : Nat} {x : List Int} (h : GoodX wd x) (a b : Int) : legalL (part x a b) = true := by
  refine List.all_eq_true.2 fun m hm => List.all_eq_true.1 h.2.1 m ?_
  exact List.mem_of_mem_drop (List.mem_of_mem_take hm)
theorem good_have {wd : Nat} {L : List (List Int)} (h : GoodD wd L) (a b : Int) : haveF L a b = true :=
  List.all_eq_true.2 fun x hx => good_part (h x hx) a b
theorem good_w {wd : Nat} {L : List (List Int)} (h : GoodD wd L) (h1 : 1 ≤ wd) (h2 : wd ≤ 20) (h3 : L.length ≤ 40) : 1 ≤ a2W L ∧ a2W L ≤ deckW L ∧ a2W L ≤ wd := by
  have := (good_deck h h1 h2 h3).2
  unfold a2W deckW
  by_cases h0 : L.length = 0
  · rw [if_pos h0, if_pos h0]; omega
  · rw [if_neg h0, if_neg h0, this (by omega)]; omega
theorem good_codeK {wd : Nat} {L : List (List Int)} {i j : Nat} (h : GoodD wd L) (h1 : 1 ≤ wd) (h2 : wd ≤ 20) (h3 : L.length ≤ 40) (hij : i < j) (hj : j ≤ a2W L) : codeK L (i : Int) (j : Int) = 0 := by
  have hw := good_w h h1 h2 h3
  have hf : fieldOk (i : Int) (j : Int) (deckW L : Int) = true := by
    unfold fieldOk
    simp
    omega
  unfold codeK
  rw [if_pos (good_deck h h1 h2 h3).1, if_pos hf, if_pos (good_have h _ _)]
theorem good_tot {wd : Nat} {hs : List Hd} (h : GoodD wd (cards hs)) (h2 : wd ≤ 20) (h3 : hs.length ≤ 40) : hs.length + tot hs ≤ 840 := by
  have : tot hs ≤ hs.length * 20 := tot_le fun x hx => by
    have := (h x.xs (List.mem_map.2 ⟨x, hx, rfl⟩)).1
    omega
  omega

/-! ### the same, compared; in the reference -/
theorem l00Same_eq (A A' : Option Addr) (c c' : Nat) (xs ys : List Int) (w : World) (h : xs = ys) (ha : Rd w w.heap.size 1 A xs.length (ints xs)) (hb : Rd w w.heap.size 1 A' ys.length (ints ys)) (hl : xs.length ≤ 1048576) :
    Calls Tryz.prog 66 #[.slice A xs.length c, .slice A' ys.length c'] w fun e w' => e = .returned (.bool true) ∧ Below w.heap.size w w' := by
  have := l00Same_any A A' c c' xs ys w ha hb hl (by rw [← h]; exact hl)
  rwa [decide_eq_true h] at this
theorem spSameCard_eq (A A' : Option Addr) (c c' : Nat) (xs ys : List Int) (w : World) (h : xs = ys) (ha : Rd w w.heap.size 1 A xs.length (ints xs)) (hb : Rd w w.heap.size 1 A' ys.length (ints ys)) (hl : xs.length ≤ 1048576) :
    Calls Tryz.prog 21 #[.agg #[.slice A xs.length c], .agg #[.slice A' ys.length c']] w fun e w' => e = .returned (.bool true) ∧ Below w.heap.size w w' := by
  have H := Lib.hid h
  clear h
  go_enter Tryz.func21, Tryz.ntmps21
  go_wp2_with fail
  refine (l00Same_eq A A' c c' xs ys _ H.out ((ha.a1 _).a1 _) ((hb.a1 _).a1 _) hl).mono ?_; rintro e w1 ⟨rfl, hb1⟩
  go_wp2
  go_ret
  exact ⟨rfl, bs (ba (ba (b0 _) _) _) hb1⟩

set_option maxHeartbeats 1000000 in
theorem spSameDeck_eq (D E : Option Addr) (c ce : Nat) (hs ks : List Hd) (w : World) (h : cards hs = cards ks) (ha : RdD w w.heap.size D hs) (hb : RdD w w.heap.size E ks) (hl : hs.length + tot hs ≤ 1048576) :
    Calls Tryz.prog 19 #[.slice D hs.length c, .slice E ks.length ce] w fun e w' => e = .returned (.bool true) ∧ Below w.heap.size w w' := by
  obtain ⟨hlen, hat⟩ := cards_same h
  have HAT := Lib.hid hat
  have HL := Lib.hid hlen
  have e0 : ((hs.length : Int) != (ks.length : Int)) = false := bne_f (by omega)
  have e1 : (hs.length : Int) = (ks.length : Int) := by omega
  have HE := Lib.hid e1
  clear h hat hlen e1
  go_enter Tryz.func19, Tryz.ntmps19
  go_wp2
  go_loopw [5] (fun q wr => ∃ k : Nat, k ≤ hs.length ∧ q = .int .i64 k ∧ Below w.heap.size w wr) (fun q _ => hs.length - (intOf q).toNat)
  case atStart => exact ⟨0, Nat.zero_le _, rfl, b0 _⟩
  case round =>
    obtain ⟨wo, rfl⟩ : ∃ wo : World, wo = wr := ⟨_, rfl⟩
    obtain ⟨k, hk, rfl, hbw⟩ := hrel
    by_cases hlt : k < hs.length
    · have hlt' : k < ks.length := by have := HL.out; omega
      have HQ := Lib.hid (HAT.out k hlt hlt')
      have raw := ha.up hbw
      have rbw := hb.up hbw
      have rc := raw.card_at hlt
      have rc' := rbw.card_at hlt'
      have hlc : hs[k].xs.length ≤ 1048576 := by have := tot_at hs k hlt; omega
      obtain ⟨b1, o1, hD, _, hc1⟩ := raw.at_ hlt
      obtain ⟨b2, o2, hE, _, hc2⟩ := rbw.at_ hlt'
      have d1 := hc1 k hlt
      have d2 := hc2 k hlt'
      have i1 : (k : Int) < (hs.length : Int) := by omega
      have i2 : (k : Int) < (ks.length : Int) := by omega
      have l1 := fun x : Later wo => lat_cell x d1
      have l2 := fun x : Later wo => lat_cell x d2
      subst hD
      subst hE
      clear hc1 hc2 raw rbw d1 d2
      go_wp2_with fail
      refine wp_region_later (by kernel_rfl) (by kernel_rfl) ?_
      repeat (go_big_quiet_step ((go_at_call 66; exact lat_call (l00Same_eq _ _ _ _ _ _ _ HQ.out (lat_rd _ rc) (lat_rd _ rc') hlc))))
      refine wpQuiet_nil ?_
      intro w4 hb4
      have HB4 := Lib.hid (bs hbw hb4)
      clear l1 l2 hb4 hbw rc rc'
      go_wp2
      go_roundw
      case rel => exact ⟨k + 1, by omega, by go_num, HB4.out⟩
      case measure => (simp [intOf]; try omega)
    · obtain rfl : k = hs.length := by omega
      go_wp2
      go_ret
      exact ⟨rfl, hbw⟩

end Go.Proofs.YtkmejkeanmjfbaaGreatDoor

/-! ### DmDraw -/
namespace Go.Proofs.YtkmejkeanmjfbaaGreatDoor
open Go.RowKit

/-- What a draw of two cards hands back. -/
def PairP (w : World) (e : Ending) (w' : World) : Prop := ∃ B n d xs C m g ys, e = .returned (.tuple #[.agg #[.slice B n d], .agg #[.slice C m g]]) ∧ List.length xs = n ∧ n ≤ 40 ∧ List.length ys = m ∧ m ≤ 40 ∧
  Ob w' w.heap.size w'.heap.size 2 1 (.slice B n d) n (ints xs) ∧ Ob w' w.heap.size w'.heap.size 2 1 (.slice C m g) m (ints ys) ∧ Below w.heap.size w w'
/-- What a draw of one card hands back. -/
def CardP (w : World) (e : Ending) (w' : World) : Prop := ∃ B n d xs, e = .returned (.agg #[.slice B n d]) ∧ List.length xs = n ∧ n ≤ 40 ∧ Ob w' w.heap.size w'.heap.size 2 1 (.slice B n d) n (ints xs) ∧ Below w.heap.size w w'
end Go.Proofs.YtkmejkeanmjfbaaGreatDoor
