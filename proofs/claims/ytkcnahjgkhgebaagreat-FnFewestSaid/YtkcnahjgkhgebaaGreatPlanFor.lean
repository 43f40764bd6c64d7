/- Equal decks; does a plan sort a deck: isPlanFor, l08Sorts. -/
import Derived.Test.YtkcnahjgkhgebaaGreatEqualInts
import Derived.Test.YtkcnahjgkhgebaaGreatSortedBy
import Derived.Test.YtkcnahjgkhgebaaGreatRun
import Derived.Deep.RegionHeld3
namespace Go.Proofs.YtkcnahjgkhgebaaGreat
open Go.RowKit

theorem cards_take_eq {hs ks : List Hd} {k : Nat} (h : (cards hs).take k = (cards ks).take k) (hx : k < hs.length) (hy : k < ks.length) (he : hs[k].xs = ks[k].xs) : (cards hs).take (k + 1) = (cards ks).take (k + 1) := by
  rw [List.take_succ_eq_append_getElem (show k < (cards hs).length by rw [cards_length]; exact hx), List.take_succ_eq_append_getElem (show k < (cards ks).length by rw [cards_length]; exact hy), h, cards_at, cards_at, he]

set_option maxRecDepth 20000 in
set_option maxHeartbeats 4000000 in
theorem EqualDeck_any (D E : Option Addr) (c ce : Nat) (hs ks : List Hd) (w : World) (ha : RdD w w.heap.size D hs) (hb : RdD w w.heap.size E ks) (hl : hs.length + tot hs ≤ 1048576) (hl' : ks.length + tot ks ≤ 1048576) :
    Calls Tryz.prog 67 #[.slice D hs.length c, .slice E ks.length ce, .func (.func 68) #[] #[]] w fun e w' => e = .returned (.bool (decide (cards hs = cards ks))) ∧ Below w.heap.size w w' := by
  have HCA := Lib.hid (cards_length hs)
  have HCB := Lib.hid (cards_length ks)
  by_cases he : hs.length = ks.length
  · have HE := Lib.hid he
    have e0 : ((hs.length : Int) != (ks.length : Int)) = false := bne_f (by omega)
    clear he
    go_enter Tryz.func67, Tryz.ntmps67
    go_wp2
    go_loopw [17] (fun i wr => ∃ k : Nat, k ≤ hs.length ∧ i = .int .i64 k ∧ Hid ((cards hs).take k = (cards ks).take k) ∧ Below w.heap.size w wr) (fun i _ => hs.length - (intOf i).toNat)
    case atStart => exact ⟨0, Nat.zero_le _, rfl, Lib.hid rfl, b0 _⟩
    case round =>
      obtain ⟨wo, rfl⟩ : ∃ wo : World, wo = wr := ⟨_, rfl⟩
      obtain ⟨k, hk, rfl, HT, hbw⟩ := hrel
      by_cases hlt : k < hs.length
      · have hlt' : k < ks.length := by have := HE.out; omega
        have raw := ha.up hbw
        have rbw := hb.up hbw
        have rc := ((raw.card_at hlt).a1 (.cells #[.slice hs[k].a hs[k].xs.length hs[k].c] 62)).a1 (.cells #[.slice ks[k].a ks[k].xs.length ks[k].c] 62)
        have rc' := ((rbw.card_at hlt').a1 (.cells #[.slice hs[k].a hs[k].xs.length hs[k].c] 62)).a1 (.cells #[.slice ks[k].a ks[k].xs.length ks[k].c] 62)
        have hlc : hs[k].xs.length ≤ 1048576 := by have := tot_at hs k hlt; omega
        have hlc' : ks[k].xs.length ≤ 1048576 := by have := tot_at ks k hlt'; omega
        obtain ⟨b1, o1, hD, _, hc1⟩ := raw.at_ hlt
        obtain ⟨b2, o2, hE, _, hc2⟩ := rbw.at_ hlt'
        have d1 := hc1 k hlt
        have d2 := cell_alloc (hc2 k hlt') (.cells #[.slice hs[k].a hs[k].xs.length hs[k].c] 62)
        have i1 : (k : Int) < (hs.length : Int) := by omega
        have i2 : (k : Int) < (ks.length : Int) := by omega
        have TB := ba (ba hbw (.cells #[.slice hs[k].a hs[k].xs.length hs[k].c] 62)) (.cells #[.slice ks[k].a ks[k].xs.length ks[k].c] 62)
        subst hD
        subst hE
        clear hc1 hc2 raw rbw hbw
        by_cases hq : hs[k].xs = ks[k].xs
        · have HN := Lib.hid (cards_take_eq HT.out hlt hlt' hq)
          have HCON := Lib.hid (show ∀ W : World, Rd W W.heap.size 1 hs[k].a hs[k].xs.length (ints hs[k].xs) → Rd W W.heap.size 1 ks[k].a ks[k].xs.length (ints ks[k].xs) → Calls Tryz.prog 68 #[.agg #[.slice hs[k].a hs[k].xs.length hs[k].c], .agg #[.slice ks[k].a ks[k].xs.length ks[k].c]] W fun e w' => e = .returned (.bool true) ∧ Below W.heap.size W w' from fun W x y => by
            have := SameCard_any hs[k].a ks[k].a hs[k].c ks[k].c hs[k].xs ks[k].xs W x y hlc hlc'
            rwa [decide_eq_true hq] at this)
          clear hq
          go_wp2_with fail
          refine (HCON.out _ rc rc').mono ?_; rintro e w4 ⟨rfl, hb4⟩
          have T4 := Lib.hid (bs TB hb4)
          clear hb4 TB rc rc' d1 d2
          go_wp2
          go_roundw
          case rel => exact ⟨k + 1, by omega, by go_num, HN.out, T4.out⟩
          case measure => (simp [intOf]; try omega)
        · have HN := Lib.hid (show decide (cards hs = cards ks) = false by
            rw [decide_eq_false_iff_not]
            intro h
            have := (cards_same h).2 k hlt hlt'
            exact hq this)
          have HCON := Lib.hid (show ∀ W : World, Rd W W.heap.size 1 hs[k].a hs[k].xs.length (ints hs[k].xs) → Rd W W.heap.size 1 ks[k].a ks[k].xs.length (ints ks[k].xs) → Calls Tryz.prog 68 #[.agg #[.slice hs[k].a hs[k].xs.length hs[k].c], .agg #[.slice ks[k].a ks[k].xs.length ks[k].c]] W fun e w' => e = .returned (.bool false) ∧ Below W.heap.size W w' from fun W x y => by
            have := SameCard_any hs[k].a ks[k].a hs[k].c ks[k].c hs[k].xs ks[k].xs W x y hlc hlc'
            rwa [decide_eq_false hq] at this)
          clear hq
          go_wp2_with fail
          refine (HCON.out _ rc rc').mono ?_; rintro e w4 ⟨rfl, hb4⟩
          have T4 := Lib.hid (bs TB hb4)
          clear hb4 TB rc rc' d1 d2
          go_wp2
          go_ret
          exact ⟨ret_bool HN.out.symm, T4.out⟩
      · obtain rfl : k = hs.length := by omega
        have HN := Lib.hid (show decide (cards hs = cards ks) = true by
          have h1 := HT.out
          rw [List.take_of_length_le (by rw [HCA.out]; exact Nat.le_refl _), List.take_of_length_le (by rw [HCB.out, HE.out]; exact Nat.le_refl _)] at h1
          exact decide_eq_true h1)
        go_wp2
        go_ret
        exact ⟨ret_bool HN.out.symm, hbw⟩
  · have HN := Lib.hid (show decide (cards hs = cards ks) = false by
      rw [decide_eq_false_iff_not]
      intro h
      exact he (cards_same h).1)
    have e0 : ((hs.length : Int) != (ks.length : Int)) = true := bne_t (by omega)
    clear he
    go_enter Tryz.func67, Tryz.ntmps67
    go_wp2
    go_ret
    exact ⟨ret_bool HN.out.symm, b0 _⟩
theorem SameDeck_any (D E : Option Addr) (c ce : Nat) (hs ks : List Hd) (w : World) (ha : RdD w w.heap.size D hs) (hb : RdD w w.heap.size E ks) (hl : hs.length + tot hs ≤ 1048576) (hl' : ks.length + tot ks ≤ 1048576) :
    Calls Tryz.prog 33 #[.slice D hs.length c, .slice E ks.length ce] w fun e w' => e = .returned (.bool (decide (cards hs = cards ks))) ∧ Below w.heap.size w w' := by
  go_enter Tryz.func33, Tryz.ntmps33
  go_wp2_with fail
  refine (EqualDeck_any D E c ce hs ks _ ha hb hl hl').mono ?_; rintro e w1 ⟨rfl, hb1⟩
  go_wp2
  go_ret
  exact ⟨rfl, hb1⟩
theorem runL_bound {L : List (List Int)} {ps : List (Int × Int)} (hok : deckOk L = true) (hps : passesOk (deckW L : Int) ps = true) {gs : List Hd} (h : cards gs = runL L ps) : gs.length + tot gs ≤ 840 := by
  simp only [passesOk, Bool.and_eq_true] at hps
  have hp := runL_perm L (fun p hp => List.all_eq_true.1 hps.2 p hp)
  have e2 : gs.length = (cards gs).length := (cards_length gs).symm
  rw [tot_of_cards rfl, e2, h, sum_perm hp, hp.length_eq]
  exact deckOk_sum hok
theorem sortedL_bound {L : List (List Int)} {a b : Int} (hok : deckOk L = true) {gs : List Hd} (h : cards gs = sortedL L a b) : gs.length + tot gs ≤ 840 :=
  sub_bound (fun x hx => (sortedL_perm L a b).mem_iff.1 hx) (by rw [sortedL_length]; exact deckOk_len hok) hok h

end Go.Proofs.YtkcnahjgkhgebaaGreat
