/- Equal decks; does a plan sort a deck: isPlanFor, l08Sorts. IsPlanFor; in the program. l08Sorts; IsPlanFor in the reference. -/
import Derived.Test.YtmfoaggohlfflaaGreatDoorEqualInts
import Derived.Test.YtmfoaggohlfflaaGreatDoorOrderAll
import Derived.Test.YtmfoaggohlfflaaGreatDoorRun
import Derived.Deep.RegionHeld3
import Derived.Test.YtmfoaggohlfflaaGreatDoorPlan
import Derived.Test.YtmfoaggohlfflaaGreatDoorIdle
import Derived.Test.YtmfoaggohlfflaaGreatDoorLater
import Derived.Test.YtmfoaggohlfflaaGreatDoorSame
/-! ### Equal decks; does a plan sort a deck: isPlanFor, l08Sorts. -/
namespace Go.Proofs.YtmfoaggohlfflaaGreatDoor
open Go.RowKit

theorem cards_take_eq {hs ks : List Hd} {k : Nat} (h : (cards hs).take k = (cards ks).take k) (hx : k < hs.length) (hy : k < ks.length) (he : hs[k].xs = ks[k].xs) : (cards hs).take (k + 1) = (cards ks).take (k + 1) := by
  rw [List.take_succ_eq_append_getElem (show k < (cards hs).length by rw [cards_length]; exact hx), List.take_succ_eq_append_getElem (show k < (cards ks).length by rw [cards_length]; exact hy), h, cards_at, cards_at, he]

set_option maxRecDepth 20000 in
set_option maxHeartbeats 4000000 in
theorem EqualDeck_any (D E : Option Addr) (c ce : Nat) (hs ks : List Hd) (w : World) (ha : RdD w w.heap.size D hs) (hb : RdD w w.heap.size E ks) (hl : hs.length + tot hs ≤ 1048576) (hl' : ks.length + tot ks ≤ 1048576) :
    Calls Tryz.prog 144 #[.slice D hs.length c, .slice E ks.length ce, .func (.func 145) #[] #[]] w fun e w' => e = .returned (.bool (decide (cards hs = cards ks))) ∧ Below w.heap.size w w' := by
  have HCA := Lib.hid (cards_length hs)
  have HCB := Lib.hid (cards_length ks)
  by_cases he : hs.length = ks.length
  · have HE := Lib.hid he
    have e0 : ((hs.length : Int) != (ks.length : Int)) = false := bne_f (by omega)
    clear he
    go_enter Tryz.func144, Tryz.ntmps144
    go_wp2
    go_loopw [17] (fun i wr => ∃ k : Nat, k ≤ hs.length ∧ i = .int .i64 k ∧ Hid ((cards hs).take k = (cards ks).take k) ∧ Below w.heap.size w wr) (fun i _ => hs.length - (intOf i).toNat)
    case atStart => exact ⟨0, Nat.zero_le _, rfl, Lib.hid rfl, b0 _⟩
    case round =>
      obtain ⟨wo, rfl⟩ : ∃ wo : World, wo = wr := ⟨_, rfl⟩
      obtain ⟨k, hk, rfl, HT, hbw⟩ := hrel
      by_cases hlt : k < hs.length
      · have hlt' : k < ks.length := by have := HE.out; omega
        have raw := ha.up hbw
        have rbw := hb.up hbw
        have rc := ((raw.card_at hlt).a1 (.cells #[.slice hs[k].a hs[k].xs.length hs[k].c] 41)).a1 (.cells #[.slice ks[k].a ks[k].xs.length ks[k].c] 41)
        have rc' := ((rbw.card_at hlt').a1 (.cells #[.slice hs[k].a hs[k].xs.length hs[k].c] 41)).a1 (.cells #[.slice ks[k].a ks[k].xs.length ks[k].c] 41)
        have hlc : hs[k].xs.length ≤ 1048576 := by have := tot_at hs k hlt; omega
        have hlc' : ks[k].xs.length ≤ 1048576 := by have := tot_at ks k hlt'; omega
        obtain ⟨b1, o1, hD, _, hc1⟩ := raw.at_ hlt
        obtain ⟨b2, o2, hE, _, hc2⟩ := rbw.at_ hlt'
        have d1 := hc1 k hlt
        have d2 := cell_alloc (hc2 k hlt') (.cells #[.slice hs[k].a hs[k].xs.length hs[k].c] 41)
        have i1 : (k : Int) < (hs.length : Int) := by omega
        have i2 : (k : Int) < (ks.length : Int) := by omega
        have TB := ba (ba hbw (.cells #[.slice hs[k].a hs[k].xs.length hs[k].c] 41)) (.cells #[.slice ks[k].a ks[k].xs.length ks[k].c] 41)
        subst hD
        subst hE
        clear hc1 hc2 raw rbw hbw
        by_cases hq : hs[k].xs = ks[k].xs
        · have HN := Lib.hid (cards_take_eq HT.out hlt hlt' hq)
          have HCON := Lib.hid (show ∀ W : World, Rd W W.heap.size 1 hs[k].a hs[k].xs.length (ints hs[k].xs) → Rd W W.heap.size 1 ks[k].a ks[k].xs.length (ints ks[k].xs) → Calls Tryz.prog 145 #[.agg #[.slice hs[k].a hs[k].xs.length hs[k].c], .agg #[.slice ks[k].a ks[k].xs.length ks[k].c]] W fun e w' => e = .returned (.bool true) ∧ Below W.heap.size W w' from fun W x y => by
            have := SameCard_any hs[k].a ks[k].a hs[k].c ks[k].c hs[k].xs ks[k].xs W x y hlc hlc'
            rwa [decide_eq_true hq] at this)
          clear hq
          go_wp2_with fail
          refine (HCON.out _ rc rc').mono ?_; rintro e w4 ⟨rfl, hb4⟩
          have T4 := Lib.hid (bs TB hb4)
          clear hb4 TB rc rc' d1 d2
          go_wp2
          go_roundw
          case rel => exact ⟨k + 1, by omega, by go_num, HN.out, T4.out⟩
          case measure => (simp [intOf]; try omega)
        · have HN := Lib.hid (show decide (cards hs = cards ks) = false by
            rw [decide_eq_false_iff_not]
            intro h
            have := (cards_same h).2 k hlt hlt'
            exact hq this)
          have HCON := Lib.hid (show ∀ W : World, Rd W W.heap.size 1 hs[k].a hs[k].xs.length (ints hs[k].xs) → Rd W W.heap.size 1 ks[k].a ks[k].xs.length (ints ks[k].xs) → Calls Tryz.prog 145 #[.agg #[.slice hs[k].a hs[k].xs.length hs[k].c], .agg #[.slice ks[k].a ks[k].xs.length ks[k].c]] W fun e w' => e = .returned (.bool false) ∧ Below W.heap.size W w' from fun W x y => by
            have := SameCard_any hs[k].a ks[k].a hs[k].c ks[k].c hs[k].xs ks[k].xs W x y hlc hlc'
            rwa [decide_eq_false hq] at this)
          clear hq
          go_wp2_with fail
          refine (HCON.out _ rc rc').mono ?_; rintro e w4 ⟨rfl, hb4⟩
          have T4 := Lib.hid (bs TB hb4)
          clear hb4 TB rc rc' d1 d2
          go_wp2
          go_ret
          exact ⟨ret_bool HN.out.symm, T4.out⟩
      · obtain rfl : k = hs.length := by omega
        have HN := Lib.hid (show decide (cards hs = cards ks) = true by
          have h1 := HT.out
          rw [List.take_of_length_le (by rw [HCA.out]; exact Nat.le_refl _), List.take_of_length_le (by rw [HCB.out, HE.out]; exact Nat.le_refl _)] at h1
          exact decide_eq_true h1)
        go_wp2
        go_ret
        exact ⟨ret_bool HN.out.symm, hbw⟩
  · have HN := Lib.hid (show decide (cards hs = cards ks) = false by
      rw [decide_eq_false_iff_not]
      intro h
      exact he (cards_same h).1)
    have e0 : ((hs.length : Int) != (ks.length : Int)) = true := bne_t (by omega)
    clear he
    go_enter Tryz.func144, Tryz.ntmps144
    go_wp2
    go_ret
    exact ⟨ret_bool HN.out.symm, b0 _⟩
theorem SameDeck_any (D E : Option Addr) (c ce : Nat) (hs ks : List Hd) (w : World) (ha : RdD w w.heap.size D hs) (hb : RdD w w.heap.size E ks) (hl : hs.length + tot hs ≤ 1048576) (hl' : ks.length + tot ks ≤ 1048576) :
    Calls Tryz.prog 107 #[.slice D hs.length c, .slice E ks.length ce] w fun e w' => e = .returned (.bool (decide (cards hs = cards ks))) ∧ Below w.heap.size w w' := by
  go_enter Tryz.func107, Tryz.ntmps107
  go_wp2_with fail
  refine (EqualDeck_any D E c ce hs ks _ ha hb hl hl').mono ?_; rintro e w1 ⟨rfl, hb1⟩
  go_wp2
  go_ret
  exact ⟨rfl, hb1⟩
theorem runL_bound {L : List (List Int)} {ps : List (Int × Int)} (hok : deckOk L = true) (hps : passesOk (deckW L : Int) ps = true) {gs : List Hd} (h : cards gs = runL L ps) : gs.length + tot gs ≤ 840 := by
  simp only [passesOk, Bool.and_eq_true] at hps
  have hp := runL_perm L (fun p hp => List.all_eq_true.1 hps.2 p hp)
  have e2 : gs.length = (cards gs).length := (cards_length gs).symm
  rw [tot_of_cards rfl, e2, h, sum_perm hp, hp.length_eq]
  exact deckOk_sum hok
theorem sortedL_bound {L : List (List Int)} {a b : Int} (hok : deckOk L = true) {gs : List Hd} (h : cards gs = sortedL L a b) : gs.length + tot gs ≤ 840 :=
  sub_bound (fun x hx => (sortedL_perm L a b).mem_iff.1 hx) (by rw [sortedL_length]; exact deckOk_len hok) hok h

set_option maxRecDepth 20000 in
set_option maxHeartbeats 4000000 in
theorem isPlanFor_any (D : Option Addr) (c : Nat) (hs : List Hd) (i j : Nat) (A : Option Addr) (cp : Nat) (ps : List (Int × Int)) (w : World) (ha : RdD w w.heap.size D hs) (hok : deckOk (cards hs) = true) (hij : i < j) (hj : j ≤ deckW (cards hs)) (hl : hs.length + tot hs ≤ 1048576)
    (hb : Rd w w.heap.size 2 A ps.length (prs ps)) (hlp : ps.length ≤ 1048576) (hps : passesOk (deckW (cards hs) : Int) ps = true) :
    Calls Tryz.prog 50 #[.slice D hs.length c, .agg #[.int .i64 (i : Int), .int .i64 (j : Int)], .slice A ps.length cp] w fun e w' => e = .returned (.bool (decide (runL (cards hs) ps = sortedL (cards hs) (i : Int) (j : Int)))) ∧ Below w.heap.size w w' := by
  obtain ⟨w1, hw1⟩ : ∃ w1, w1 = w.alloc (.cells #[.int .i64 (i : Int), .int .i64 (j : Int)] 27) := ⟨_, rfl⟩
  have T1 : Below w.heap.size w w1 := by rw [hw1]; exact ba (b0 w) _
  have ra : RdD w1 w1.heap.size D hs := by rw [hw1]; exact ha.a1 _
  have rp : Rd w1 w1.heap.size 2 A ps.length (prs ps) := by rw [hw1]; exact hb.a1 _
  have q1 : w1.cell? ⟨w.heap.size, 0, none⟩ = some (.int .i64 (i : Int)) := by rw [hw1]; exact cell_new rfl rfl
  have q2 : w1.cell? ⟨w.heap.size, 1, none⟩ = some (.int .i64 (j : Int)) := by rw [hw1]; exact cell_new rfl rfl
  have HW := Lib.hid hw1
  have HOK := Lib.hid hok
  have HPS := Lib.hid hps
  clear hw1 hok hps ha hb
  go_enter Tryz.func50, Tryz.ntmps50
  go_wp2_with fail
  rw [← HW.out]
  go_region_held3 (fun w' => w'.cell? ⟨w.heap.size, 0, none⟩ = some (.int .i64 (i : Int)) ∧ w'.cell? ⟨w.heap.size, 1, none⟩ = some (.int .i64 (j : Int))) (first | exact ⟨q1, q2⟩ | go_keep)
    (first
      | (go_at_call 108; refine (runPasses_any D c hs A cp ps _ ?_ HOK.out hl ?_ hlp HPS.out).mono ?_; (first | exact ra | exact (ra).drew | exact (ra).drewN _); (first | exact rp | exact (rp).drew | exact (rp).drewN _); rintro e w2 ⟨E2, c2, g2, rfl, hc2, ho2, hb2⟩; have hb2 : Below w1.heap.size w1 w2 := ⟨hb2.os, hb2.tape, hb2.output, hb2.size, hb2.block⟩; replace q1 := cell_later hb2 q1; replace q2 := cell_later hb2 q2; have HC2 := Lib.hid hc2; have HB2 := Lib.hid (runL_bound HOK.out HPS.out hc2); have ra2 := ra.up hb2; clear hc2)
      | (go_at_call 109; refine (sortedBy_any D c hs i j _ ?_ HOK.out hij hj hl).mono ?_; (first | exact ra | exact (ra).drew | exact (ra).drewN _); rintro e w3 ⟨E3, c3, g3, rfl, hc3, ho3, hb3⟩; have hb3 : Below w1.heap.size w1 w3 := ⟨hb3.os, hb3.tape, hb3.output, hb3.size, hb3.block⟩; replace q1 := cell_later hb3 q1; replace q2 := cell_later hb3 q2; have HC3 := Lib.hid hc3; have HB3 := Lib.hid (sortedL_bound HOK.out hc3); have ra3 := ra.up hb3; have rp3 := rp.up hb3; clear hc3)
      | (go_at_call 108; refine (runPasses_any D c hs A cp ps _ ?_ HOK.out hl ?_ hlp HPS.out).mono ?_; (first | exact ra3 | exact (ra3).drew | exact (ra3).drewN _); (first | exact rp3 | exact (rp3).drew | exact (rp3).drewN _); rintro e w2 ⟨E2, c2, g2, rfl, hc2, ho2, hb2⟩; have hb2 : Below w3.heap.size w3 w2 := ⟨hb2.os, hb2.tape, hb2.output, hb2.size, hb2.block⟩; replace q1 := cell_later hb2 q1; replace q2 := cell_later hb2 q2; have HC2 := Lib.hid hc2; have HB2 := Lib.hid (runL_bound HOK.out HPS.out hc2); clear hc2)
      | (go_at_call 109; refine (sortedBy_any D c hs i j _ ?_ HOK.out hij hj hl).mono ?_; (first | exact ra2 | exact (ra2).drew | exact (ra2).drewN _); rintro e w3 ⟨E3, c3, g3, rfl, hc3, ho3, hb3⟩; have hb3 : Below w2.heap.size w2 w3 := ⟨hb3.os, hb3.tape, hb3.output, hb3.size, hb3.block⟩; replace q1 := cell_later hb3 q1; replace q2 := cell_later hb3 q2; have HC3 := Lib.hid hc3; have HB3 := Lib.hid (sortedL_bound HOK.out hc3); clear hc3)
      | (go_at_call 107; refine (SameDeck_any _ _ _ _ g2 g3 _ ?_ ?_ ?_ ?_).mono ?_; (first | exact (ho2.bs hb3).rd | exact ((ho2.bs hb3).rd).drew | exact ((ho2.bs hb3).rd).drewN _ | exact ho2.rd | exact (ho2.rd).drew | exact (ho2.rd).drewN _); (first | exact ho3.rd | exact (ho3.rd).drew | exact (ho3.rd).drewN _ | exact (ho3.bs hb2).rd | exact ((ho3.bs hb2).rd).drew | exact ((ho3.bs hb2).rd).drewN _); (have := HB2.out; omega); (have := HB3.out; omega); rintro e w5 ⟨rfl, hb5⟩; (first | (have hb5 : Below w3.heap.size w3 w5 := ⟨hb5.os, hb5.tape, hb5.output, hb5.size, hb5.block⟩) | (have hb5 : Below w2.heap.size w2 w5 := ⟨hb5.os, hb5.tape, hb5.output, hb5.size, hb5.block⟩)); replace q1 := cell_later hb5 q1; replace q2 := cell_later hb5 q2))
  all_goals go_wp2
  all_goals go_ret
  all_goals first
    | exact ⟨ret_bool (by rw [HC2.out, HC3.out]), ((T1.trans (hb2.mono T1.size)).trans (hb3.mono (Nat.le_trans T1.size hb2.size))).trans (hb5.mono (Nat.le_trans T1.size (Nat.le_trans hb2.size hb3.size)))⟩
    | exact ⟨ret_bool (by rw [HC2.out, HC3.out]), ((T1.trans (hb3.mono T1.size)).trans (hb2.mono (Nat.le_trans T1.size hb3.size))).trans (hb5.mono (Nat.le_trans T1.size (Nat.le_trans hb3.size hb2.size)))⟩
end Go.Proofs.YtmfoaggohlfflaaGreatDoor

/-! ### IsPlanFor; in the program. -/
namespace Go.Proofs.YtmfoaggohlfflaaGreatDoor
open Go.RowKit

def ipC (L : List (List Int)) (ps : List (Int × Int)) (a b : Int) : Int := if deckOk L = true then (if passesOk (deckW L : Int) ps = true then codeK L a b else 2) else 1
def ipR (L : List (List Int)) (ps : List (Int × Int)) (a b : Int) : Bool := decide (ipC L ps a b = 0) && decide (runL L ps = sortedL L a b)
theorem ipR_no {L : List (List Int)} {ps : List (Int × Int)} {a b : Int} (h : ipC L ps a b ≠ 0) : ipR L ps a b = false := by unfold ipR; rw [decide_eq_false h]; rfl
theorem ipR_yes {L : List (List Int)} {ps : List (Int × Int)} {a b : Int} (h : ipC L ps a b = 0) : ipR L ps a b = decide (runL L ps = sortedL L a b) := by unfold ipR; rw [decide_eq_true h]; rfl
theorem ipC_1 {L : List (List Int)} {ps : List (Int × Int)} {a b : Int} (h : deckOk L = false) : ipC L ps a b = 1 ∧ ipR L ps a b = false := by
  have h1 : ipC L ps a b = 1 := by unfold ipC; rw [if_neg (by simp [h])]
  exact ⟨h1, ipR_no (by rw [h1]; decide)⟩
theorem ipC_p {L : List (List Int)} {ps : List (Int × Int)} {a b : Int} (h : deckOk L = true) (h2 : passesOk (deckW L : Int) ps = false) : ipC L ps a b = 2 ∧ ipR L ps a b = false := by
  have h1 : ipC L ps a b = 2 := by unfold ipC; rw [if_pos h, if_neg (by simp [h2])]
  exact ⟨h1, ipR_no (by rw [h1]; decide)⟩
theorem ipC_k {L : List (List Int)} {ps : List (Int × Int)} {a b : Int} (h : deckOk L = true) (h2 : passesOk (deckW L : Int) ps = true) : ipC L ps a b = codeK L a b := by unfold ipC; rw [if_pos h, if_pos h2]
theorem ipC_f {L : List (List Int)} {ps : List (Int × Int)} {a b : Int} (h : deckOk L = true) (h2 : fieldOk a b (deckW L : Int) = false) : ipC L ps a b = 2 ∧ ipR L ps a b = false := by
  have h1 : ipC L ps a b = 2 := by
    unfold ipC
    rw [if_pos h]
    split
    · exact codeK_2 h h2
    · rfl
  exact ⟨h1, ipR_no (by rw [h1]; decide)⟩
theorem ipC_8 {L : List (List Int)} {ps : List (Int × Int)} {a b : Int} (h : deckOk L = true) (h2 : passesOk (deckW L : Int) ps = true) (h3 : fieldOk a b (deckW L : Int) = true) (h4 : haveF L a b = false) : ipC L ps a b = 8 ∧ ipR L ps a b = false := by
  have h1 : ipC L ps a b = 8 := by rw [ipC_k h h2]; exact codeK_8 h h3 h4
  exact ⟨h1, ipR_no (by rw [h1]; decide)⟩
theorem ipC_0 {L : List (List Int)} {ps : List (Int × Int)} {a b : Int} (h : deckOk L = true) (h2 : passesOk (deckW L : Int) ps = true) (h3 : fieldOk a b (deckW L : Int) = true) (h4 : haveF L a b = true) : ipC L ps a b = 0 ∧ ipR L ps a b = decide (runL L ps = sortedL L a b) := by
  have h1 : ipC L ps a b = 0 := by rw [ipC_k h h2]; exact codeK_0 h h3 h4
  exact ⟨h1, ipR_yes h1⟩

set_option maxRecDepth 20000 in
set_option maxHeartbeats 4000000 in
theorem IsPlanFor_any (D : Option Addr) (c : Nat) (hs : List Hd) (L : List (List Int)) (a b : Int) (A : Option Addr) (cp : Nat) (ps : List (Int × Int)) (w : World) (ha : RdD w w.heap.size D hs) (hL : cards hs = L) (hl : hs.length + tot hs ≤ 1048576) (_hc : hs.length ≤ c) (hb : Rd w w.heap.size 2 A ps.length (prs ps)) (hlp : ps.length ≤ 1048576) :
    Calls Tryz.prog 12 #[.slice D hs.length c, .agg #[.int .i64 a, .int .i64 b], .slice A ps.length cp] w fun e w' => e = .returned (.tuple #[.bool (ipR L ps a b), .int .i64 (ipC L ps a b)]) ∧ Below w.heap.size w w' := by
  subst hL
  have T0 : Below w.heap.size w (w.alloc (.cells #[.int .i64 a, .int .i64 b] 27)) := ba (b0 w) _
  have ra := ha.a1 (.cells #[.int .i64 a, .int .i64 b] 27)
  have rp := hb.a1 (.cells #[.int .i64 a, .int .i64 b] 27)
  have p0 : (w.alloc (.cells #[.int .i64 a, .int .i64 b] 27)).cell? ⟨w.heap.size, 0, none⟩ = some (.int .i64 a) := cell_new rfl rfl
  have p1 : (w.alloc (.cells #[.int .i64 a, .int .i64 b] 27)).cell? ⟨w.heap.size, 1, none⟩ = some (.int .i64 b) := cell_new rfl rfl
  rcases Bool.eq_false_or_eq_true (deckOk (cards hs)) with h1 | h1
  · have hw := deckOk_wid h1
    have H1 := Lib.hid h1
    have HVD := Lib.hid (show ∀ W : World, RdD W W.heap.size D hs → Calls Tryz.prog 47 #[.slice D hs.length c] W fun e w' => e = .returned (.bool true) ∧ Below W.heap.size W w' from fun W x => by
      have := ValidDeck_any D c hs W x hl
      rwa [h1] at this)
    rcases Bool.eq_false_or_eq_true (fieldOk a b (deckW (cards hs) : Int)) with h2 | h2
    · have HF := Lib.hid (show ∀ W : World, Calls Tryz.prog 39 #[.agg #[.int .i64 a, .int .i64 b], .int .i64 (deckW (cards hs) : Int)] W fun e w' => e = .returned (.bool true) ∧ Below W.heap.size W w' from fun W => by
        have := isField_any a b (deckW (cards hs) : Int) W
        rwa [h2] at this)
      rcases Bool.eq_false_or_eq_true (passesOk (deckW (cards hs) : Int) ps) with h3 | h3
      · have HP := Lib.hid (show ∀ W : World, Rd W W.heap.size 2 A ps.length (prs ps) → Calls Tryz.prog 41 #[.slice A ps.length cp, .int .i64 (deckW (cards hs) : Int)] W fun e w' => e = .returned (.bool true) ∧ Below W.heap.size W w' from fun W x => by
          have := arePasses_any A cp ps (deckW (cards hs) : Int) W x hlp (by omega) (by omega)
          rwa [h3] at this)
        have H3 := Lib.hid h3
        obtain ⟨i, j, rfl, rfl, hij, hjw⟩ := fieldOk_nat h2
        rcases Bool.eq_false_or_eq_true (haveF (cards hs) (i : Int) (j : Int)) with h4 | h4
        · have HC := Lib.hid (ipC_0 h1 h3 h2 h4)
          have HH := Lib.hid (show ∀ W : World, RdD W W.heap.size D hs → Calls Tryz.prog 49 #[.slice D hs.length c, .agg #[.int .i64 (i : Int), .int .i64 (j : Int)]] W fun e w' => e = .returned (.bool true) ∧ Below W.heap.size W w' from fun W x => by
            have := haveField_any D c hs i j W x h1 hij hjw hl
            rwa [h4] at this)
          clear h1 h2 h3 h4
          go_enter Tryz.func12, Tryz.ntmps12
          go_wp2_with fail
          refine (HVD.out _ ra).mono ?_; rintro e w1 ⟨rfl, hb1⟩
          have T1 := bs T0 hb1
          have ra1 := ra.up hb1
          have rp1 := rp.up hb1
          have q0 := cell_later hb1 p0
          have q1 := cell_later hb1 p1
          have l1 := fun x : Later w1 => lat_cell x q0
          have l2 := fun x : Later w1 => lat_cell x q1
          clear hb1 p0 p1 ra rp ha hb
          go_wp2_with fail
          refine wp_region_later (by kernel_rfl) (by kernel_rfl) ?_
          repeat (go_big_quiet_step ((first | (go_at_call 48; exact lat_call (deckColumns_any _ _ hs _ (ra1.up (Later.below _)) hl)) | (go_at_call 39; exact lat_call (HF.out _)) | (go_at_call 41; exact lat_call (HP.out _ (rp1.up (Later.below _)))))))
          refine wpQuiet_nil ?_
          intro w2 hb2
          have ra2 := ra1.up hb2
          have rp2 := rp1.up hb2
          have q2 := cell_later hb2 q0
          have q3 := cell_later hb2 q1
          have T2 := bs T1 hb2
          clear l1 l2 q0 q1 ra1 rp1 hb2 T1
          go_wp2_with fail
          refine (HH.out _ ra2).mono ?_; rintro e w3 ⟨rfl, hb3⟩
          have ra3 := ra2.up hb3
          have rp3 := rp2.up hb3
          have q4 := cell_later hb3 q2
          have q5 := cell_later hb3 q3
          have T3 := bs T2 hb3
          clear q2 q3 ra2 rp2 hb3 T2
          go_wp2_with fail
          refine (isPlanFor_any _ _ hs i j _ _ ps _ ra3 H1.out hij hjw hl rp3 hlp H3.out).mono ?_; rintro e w4 ⟨rfl, hb4⟩
          go_wp2
          go_ret2
          exact ⟨ret_bi HC.out.2.symm HC.out.1.symm, bs T3 hb4⟩
        · have HC := Lib.hid (ipC_8 h1 h3 h2 h4)
          have HH := Lib.hid (show ∀ W : World, RdD W W.heap.size D hs → Calls Tryz.prog 49 #[.slice D hs.length c, .agg #[.int .i64 (i : Int), .int .i64 (j : Int)]] W fun e w' => e = .returned (.bool false) ∧ Below W.heap.size W w' from fun W x => by
            have := haveField_any D c hs i j W x h1 hij hjw hl
            rwa [h4] at this)
          clear h1 h2 h3 h4
          go_enter Tryz.func12, Tryz.ntmps12
          go_wp2_with fail
          refine (HVD.out _ ra).mono ?_; rintro e w1 ⟨rfl, hb1⟩
          have T1 := bs T0 hb1
          have ra1 := ra.up hb1
          have rp1 := rp.up hb1
          have q0 := cell_later hb1 p0
          have q1 := cell_later hb1 p1
          have l1 := fun x : Later w1 => lat_cell x q0
          have l2 := fun x : Later w1 => lat_cell x q1
          clear hb1 p0 p1 ra rp ha hb
          go_wp2_with fail
          refine wp_region_later (by kernel_rfl) (by kernel_rfl) ?_
          repeat (go_big_quiet_step ((first | (go_at_call 48; exact lat_call (deckColumns_any _ _ hs _ (ra1.up (Later.below _)) hl)) | (go_at_call 39; exact lat_call (HF.out _)) | (go_at_call 41; exact lat_call (HP.out _ (rp1.up (Later.below _)))))))
          refine wpQuiet_nil ?_
          intro w2 hb2
          have ra2 := ra1.up hb2
          have q2 := cell_later hb2 q0
          have q3 := cell_later hb2 q1
          have T2 := bs T1 hb2
          clear l1 l2 q0 q1 ra1 rp1 hb2 T1
          go_wp2_with fail
          refine (HH.out _ ra2).mono ?_; rintro e w3 ⟨rfl, hb3⟩
          go_wp2
          go_ret2
          exact ⟨ret_bi HC.out.2.symm HC.out.1.symm, bs T2 hb3⟩
      · have HP := Lib.hid (show ∀ W : World, Rd W W.heap.size 2 A ps.length (prs ps) → Calls Tryz.prog 41 #[.slice A ps.length cp, .int .i64 (deckW (cards hs) : Int)] W fun e w' => e = .returned (.bool false) ∧ Below W.heap.size W w' from fun W x => by
          have := arePasses_any A cp ps (deckW (cards hs) : Int) W x hlp (by omega) (by omega)
          rwa [h3] at this)
        have HC := Lib.hid (ipC_p (a := a) (b := b) h1 h3)
        clear h1 h2 h3
        go_enter Tryz.func12, Tryz.ntmps12
        go_wp2_with fail
        refine (HVD.out _ ra).mono ?_; rintro e w1 ⟨rfl, hb1⟩
        have T1 := bs T0 hb1
        have ra1 := ra.up hb1
        have rp1 := rp.up hb1
        have q0 := cell_later hb1 p0
        have q1 := cell_later hb1 p1
        have l1 := fun x : Later w1 => lat_cell x q0
        have l2 := fun x : Later w1 => lat_cell x q1
        clear hb1 p0 p1 ra rp ha hb
        go_wp2_with fail
        refine wp_region_later (by kernel_rfl) (by kernel_rfl) ?_
        repeat (go_big_quiet_step ((first | (go_at_call 48; exact lat_call (deckColumns_any _ _ hs _ (ra1.up (Later.below _)) hl)) | (go_at_call 39; exact lat_call (HF.out _)) | (go_at_call 41; exact lat_call (HP.out _ (rp1.up (Later.below _)))))))
        refine wpQuiet_nil ?_
        intro w2 hb2
        go_wp2
        go_ret2
        exact ⟨ret_bi HC.out.2.symm HC.out.1.symm, bs T1 hb2⟩
    · have HF := Lib.hid (show ∀ W : World, Calls Tryz.prog 39 #[.agg #[.int .i64 a, .int .i64 b], .int .i64 (deckW (cards hs) : Int)] W fun e w' => e = .returned (.bool false) ∧ Below W.heap.size W w' from fun W => by
        have := isField_any a b (deckW (cards hs) : Int) W
        rwa [h2] at this)
      have HC := Lib.hid (ipC_f (ps := ps) h1 h2)
      clear h1 h2
      go_enter Tryz.func12, Tryz.ntmps12
      go_wp2_with fail
      refine (HVD.out _ ra).mono ?_; rintro e w1 ⟨rfl, hb1⟩
      have T1 := bs T0 hb1
      have ra1 := ra.up hb1
      have q0 := cell_later hb1 p0
      have q1 := cell_later hb1 p1
      have l1 := fun x : Later w1 => lat_cell x q0
      have l2 := fun x : Later w1 => lat_cell x q1
      clear hb1 p0 p1 ra rp ha hb
      go_wp2_with fail
      refine wp_region_later (by kernel_rfl) (by kernel_rfl) ?_
      repeat (go_big_quiet_step ((first | (go_at_call 48; exact lat_call (deckColumns_any _ _ hs _ (ra1.up (Later.below _)) hl)) | (go_at_call 39; exact lat_call (HF.out _)))))
      refine wpQuiet_nil ?_
      intro w2 hb2
      go_wp2
      go_ret2
      exact ⟨ret_bi HC.out.2.symm HC.out.1.symm, bs T1 hb2⟩
  · have HC := Lib.hid (ipC_1 (ps := ps) (a := a) (b := b) h1)
    have HVD := Lib.hid (show ∀ W : World, RdD W W.heap.size D hs → Calls Tryz.prog 47 #[.slice D hs.length c] W fun e w' => e = .returned (.bool false) ∧ Below W.heap.size W w' from fun W x => by
      have := ValidDeck_any D c hs W x hl
      rwa [h1] at this)
    clear h1
    go_enter Tryz.func12, Tryz.ntmps12
    go_wp2_with fail
    refine (HVD.out _ ra).mono ?_; rintro e w1 ⟨rfl, hb1⟩
    go_wp2
    go_ret2
    exact ⟨ret_bi HC.out.2.symm HC.out.1.symm, bs T0 hb1⟩
end Go.Proofs.YtmfoaggohlfflaaGreatDoor

/-! ### l08Sorts; IsPlanFor in the reference. -/
namespace Go.Proofs.YtmfoaggohlfflaaGreatDoor
open Go.RowKit

/-- The card at the k-th place of a list of places. -/
theorem pick_len (L : List (List Int)) (zs : List Int) : (pickL L zs).length = zs.length := by unfold pickL; simp
theorem pick_take (L : List (List Int)) (zs : List Int) (k : Nat) : (pickL L zs).take k = pickL L (zs.take k) := by unfold pickL; rw [List.map_take]

theorem ordL_pick (L : List (List Int)) (a b : Int) : pickL L (ordL L a b) = sortedL L a b := rfl

end Go.Proofs.YtmfoaggohlfflaaGreatDoor
