/- CompareDecks; in the program and in the reference. -/
import Derived.Test.YtlnpkijeondidaaDecks
import Derived.Test.YtlnpkijeondidaaCompare
import Derived.Deep.RegionHeld3
namespace Go.Proofs.Ytlnpkijeondidaa
open Go.RowKit

theorem deck_len {hs : List Hd} (h : deckOk (cards hs) = true) {k : Nat} (hk : k < hs.length) : hs[k].xs.length = deckW (cards hs) := by
  rw [deckW_pos (by omega), (deckOk_hd h hk).2, (deckOk_hd h (k := 0) (by omega)).2]
/-- Do the cards number i of two decks differ? -/
def cdB (L M : List (List Int)) (ps : List (Int × Int)) (i : Nat) : Bool := decide (0 < (diffL (L.getD i []) (M.getD i []) ps).length)
def cdFirst (L M : List (List Int)) (ps : List (Int × Int)) : Int :=
  let q := idxP (cdB L M ps) (List.range (min L.length M.length))
  if 0 ≤ q then q else if L.length = M.length then (-1 : Int) else ((min L.length M.length : Nat) : Int)
def cdC (L M : List (List Int)) (ps : List (Int × Int)) : Int := if deckOk L = true ∧ deckOk M = true then (if validB ps (deckW L : Int) (deckW M : Int) = true then 0 else 2) else 1
def cdV (L M : List (List Int)) (ps : List (Int × Int)) : Int := if cdC L M ps = 0 then cdFirst L M ps else 0
theorem cdC_1 {L M : List (List Int)} {ps : List (Int × Int)} (h : deckOk L = false) : cdC L M ps = 1 := by unfold cdC; rw [if_neg (by simp [h])]
theorem cdC_2 {L M : List (List Int)} {ps : List (Int × Int)} (h : deckOk M = false) : cdC L M ps = 1 := by unfold cdC; rw [if_neg (by simp [h])]
theorem cdC_q {L M : List (List Int)} {ps : List (Int × Int)} {q : Bool} (h : deckOk L = true) (h' : deckOk M = true) (h2 : validB ps (deckW L : Int) (deckW M : Int) = q) : cdC L M ps = if q = true then 0 else 2 := by unfold cdC; rw [if_pos ⟨h, h'⟩, h2]
theorem cdV_no {L M : List (List Int)} {ps : List (Int × Int)} (h : ¬ cdC L M ps = 0) : cdV L M ps = 0 := by unfold cdV; rw [if_neg h]
theorem cdV_yes {L M : List (List Int)} {ps : List (Int × Int)} (h : cdC L M ps = 0) : cdV L M ps = cdFirst L M ps := by unfold cdV; rw [if_pos h]
/-- The first k cards of two decks are alike. -/
def AlikeTo (L M : List (List Int)) (ps : List (Int × Int)) (k : Nat) : Prop := ((List.range (min L.length M.length)).take k).any (cdB L M ps) = false
theorem alike_zero (L M : List (List Int)) (ps : List (Int × Int)) : AlikeTo L M ps 0 := by simp [AlikeTo]
theorem alike_succ {L M : List (List Int)} {ps : List (Int × Int)} {k : Nat} (h : AlikeTo L M ps k) (hk : k < min L.length M.length) (hq : cdB L M ps k = false) : AlikeTo L M ps (k + 1) :=
  any_take_succ (by simpa using hk) h (by simpa using hq)
theorem alike_hit {L M : List (List Int)} {ps : List (Int × Int)} {k : Nat} (h : AlikeTo L M ps k) (hk : k < min L.length M.length) (hq : cdB L M ps k = true) : cdFirst L M ps = (k : Int) := by
  have := idxP_some (p := cdB L M ps) (l := List.range (min L.length M.length)) (k := k) (by simpa using hk) h (by simpa using hq)
  unfold cdFirst
  simp only [this]
  rw [if_pos (by omega)]
theorem alike_end {L M : List (List Int)} {ps : List (Int × Int)} {k : Nat} (h : AlikeTo L M ps k) (hk : ¬ k < min L.length M.length) : cdFirst L M ps = if L.length = M.length then (-1 : Int) else ((min L.length M.length : Nat) : Int) := by
  have := idxP_none (p := cdB L M ps) (any_take_all (l := List.range (min L.length M.length)) (by simpa using hk) h)
  unfold cdFirst
  simp only [this]
  rw [if_neg (by decide)]
theorem cdB_at {hs gs : List Hd} {ps : List (Int × Int)} {k : Nat} (h1 : k < hs.length) (h2 : k < gs.length) : cdB (cards hs) (cards gs) ps k = decide (0 < (diffL hs[k].xs gs[k].xs ps).length) := by
  unfold cdB
  simp [List.getD, cards, h1, h2]
theorem ret_cd {a b c d : Int} (h : a = b) (k : c = d) : Ending.returned (.tuple #[.int .i64 a, .int .i64 c]) = .returned (.tuple #[.int .i64 b, .int .i64 d]) := by rw [h, k]

theorem l00Min_any (a b : Int) (w : World) : Calls Try.prog 105 #[.int .i64 a, .int .i64 b] w fun e w' => e = .returned (.int .i64 (min a b)) ∧ w = w' := by
  by_cases h : a < b
  · have HM := Lib.hid (show min a b = a by omega)
    go_enter Try.func105, Try.ntmps105
    go_wp2
    go_ret
    exact ⟨ret_int HM.out.symm, rfl⟩
  · have HM := Lib.hid (show min a b = b by omega)
    go_enter Try.func105, Try.ntmps105
    go_wp2
    go_ret
    exact ⟨ret_int HM.out.symm, rfl⟩

set_option maxHeartbeats 4000000 in
theorem CompareDecks_any (D : Option Addr) (c : Nat) (hs : List Hd) (L : List (List Int)) (D' : Option Addr) (c' : Nat) (gs : List Hd) (M : List (List Int)) (P : Option Addr) (cp : Nat) (ps : List (Int × Int)) (w : World) (ra : RdD w w.heap.size D hs) (hL : cards hs = L) (hl : hs.length + tot hs ≤ 1048576) (_hc : hs.length ≤ c) (rb : RdD w w.heap.size D' gs) (hM : cards gs = M) (hlg : gs.length + tot gs ≤ 1048576) (_hc' : gs.length ≤ c') (rp : Rd w w.heap.size 2 P ps.length (prs ps)) (hlp : ps.length ≤ 1048576) :
    Calls Try.prog 48 #[.slice D hs.length c, .slice D' gs.length c', .slice P ps.length cp] w fun e w' => e = .returned (.tuple #[.int .i64 (cdV L M ps), .int .i64 (cdC L M ps)]) ∧ Below w.heap.size w w' := by
  subst hL
  subst hM
  rcases Bool.eq_false_or_eq_true (deckOk (cards hs)) with h1 | h1
  case inr =>
    have HC := Lib.hid (cdC_1 (M := cards gs) (ps := ps) h1)
    have HV := Lib.hid (cdV_no (L := cards hs) (M := cards gs) (ps := ps) (by rw [HC.out]; decide))
    go_enter Try.func48, Try.ntmps48
    go_wp2_with fail
    refine (ValidDeck_any _ _ hs _ ra hl).mono ?_; rintro e w1 ⟨rfl, hb1⟩
    go_wp2
    go_ret2
    exact ⟨ret_cd HV.out.symm HC.out.symm, hb1⟩
  rcases Bool.eq_false_or_eq_true (deckOk (cards gs)) with h2 | h2
  case inr =>
    have HC := Lib.hid (cdC_2 (L := cards hs) (ps := ps) h2)
    have HV := Lib.hid (cdV_no (L := cards hs) (M := cards gs) (ps := ps) (by rw [HC.out]; decide))
    go_enter Try.func48, Try.ntmps48
    go_wp2_with fail
    refine (ValidDeck_any _ _ hs _ ra hl).mono ?_; rintro e w1 ⟨rfl, hb1⟩
    go_wp2_with fail
    refine (ValidDeck_any _ _ gs _ (rb.up hb1) hlg).mono ?_; rintro e w2 ⟨rfl, hb2⟩
    go_wp2
    go_ret2
    exact ⟨ret_cd HV.out.symm HC.out.symm, bs hb1 hb2⟩
  have H1 := Lib.hid h1
  have H2 := Lib.hid h2
  rcases Bool.eq_false_or_eq_true (validB ps (deckW (cards hs) : Int) (deckW (cards gs) : Int)) with h3 | h3
  case inr =>
    have HC := Lib.hid (cdC_q h1 h2 h3)
    have HV := Lib.hid (cdV_no (L := cards hs) (M := cards gs) (ps := ps) (by rw [HC.out]; decide))
    go_enter Try.func48, Try.ntmps48
    go_wp2_with fail
    refine (ValidDeck_any _ _ hs _ ra hl).mono ?_; rintro e w1 ⟨rfl, hb1⟩
    go_wp2_with fail
    refine (ValidDeck_any _ _ gs _ (rb.up hb1) hlg).mono ?_; rintro e w2 ⟨rfl, hb2⟩
    have T2 := bs hb1 hb2
    replace ra := ra.up T2
    replace rb := rb.up T2
    replace rp := rp.up T2
    clear hb1 hb2
    go_wp2_with fail
    refine (deckColumns_any _ _ hs _ ra hl).mono ?_; rintro e w3 ⟨rfl, hb3⟩
    go_wp2_with fail
    refine (deckColumns_any _ _ gs _ (rb.up hb3) hlg).mono ?_; rintro e w4 ⟨rfl, hb4⟩
    have T34 := bs hb3 hb4
    go_wp2_with fail
    refine (ValidCopies_any _ _ ps _ _ _ (rp.up T34) hlp).mono ?_; rintro e w5 ⟨rfl, hb5⟩
    have T5 := bs T34 hb5
    clear T34 hb3 hb4 hb5
    go_wp2
    go_ret2
    exact ⟨ret_cd HV.out.symm HC.out.symm, bs T2 T5⟩
  by_cases hle : (hs.length : Int) ≤ (gs.length : Int)
  all_goals
    have HC := Lib.hid (cdC_q h1 h2 h3)
    have HV := Lib.hid (cdV_yes (L := cards hs) (M := cards gs) (ps := ps) (by rw [HC.out]; rfl))
    have HFF := Lib.hid (validB_fit h3)
    have hmin : min (hs.length : Int) (gs.length : Int) = (hs.length : Int) ∨ min (hs.length : Int) (gs.length : Int) = (gs.length : Int) := by omega
    first | (replace hmin : min (hs.length : Int) (gs.length : Int) = (hs.length : Int) := by omega) | (replace hmin : min (hs.length : Int) (gs.length : Int) = (gs.length : Int) := by omega)
    go_enter Try.func48, Try.ntmps48
    go_wp2_with fail
    refine (ValidDeck_any _ _ hs _ ra hl).mono ?_; rintro e w1 ⟨rfl, hb1⟩
    go_wp2_with fail
    refine (ValidDeck_any _ _ gs _ (rb.up hb1) hlg).mono ?_; rintro e w2 ⟨rfl, hb2⟩
    have T2 := bs hb1 hb2
    replace ra := ra.up T2
    replace rb := rb.up T2
    replace rp := rp.up T2
    clear hb1 hb2
    go_wp2_with fail
    refine (deckColumns_any _ _ hs _ ra hl).mono ?_; rintro e w3 ⟨rfl, hb3⟩
    go_wp2_with fail
    refine (deckColumns_any _ _ gs _ (rb.up hb3) hlg).mono ?_; rintro e w4 ⟨rfl, hb4⟩
    have T34 := bs hb3 hb4
    go_wp2_with fail
    refine (ValidCopies_any _ _ ps _ _ _ (rp.up T34) hlp).mono ?_; rintro e w5 ⟨rfl, hb5⟩
    have T5 := bs T34 hb5
    clear T34 hb3 hb4 hb5
    replace ra := ra.up T5
    replace rb := rb.up T5
    replace rp := rp.up T5
    have T5b := T5
    go_wp2
    go_loopw [9, 33] (fun _ i wr => ∃ k : Nat, k ≤ min hs.length gs.length ∧ i = .int .i64 k ∧ AlikeTo (cards hs) (cards gs) ps k ∧ Below w5.heap.size w5 wr) (fun _ i _ => hs.length - (intOf i).toNat)
    case atStart => exact ⟨0, Nat.zero_le _, rfl, alike_zero _ _ _, b0 _⟩
    case round =>
      obtain ⟨k, hk, rfl, hal, hbw⟩ := hrel
      have HAL := Lib.hid hal
      clear hal
      by_cases hlt : k < min hs.length gs.length
      · have hlt1 : k < hs.length := by omega
        have hlt2 : k < gs.length := by omega
        have i1 : (k : Int) < (hs.length : Int) := by omega
        have i2 : (k : Int) < (gs.length : Int) := by omega
        have HMIN := Lib.hid (show k < min (cards hs).length (cards gs).length by rw [cards_length, cards_length]; exact hlt)
        have qa := (ra.up hbw).card_at hlt1
        have qb := (rb.up hbw).card_at hlt2
        have qp := rp.up hbw
        have HFC := Lib.hid (show FitC ps hs[k].xs.length gs[k].xs.length by rw [deck_len H1.out hlt1, deck_len H2.out hlt2]; exact HFF.out)
        have m1 := (cardOk_len (deckOk_hd H1.out hlt1).1).2
        have m2 := (cardOk_len (deckOk_hd H2.out hlt2).1).2
        obtain ⟨b1, o1, hD1, _, hc1⟩ := (ra.up hbw).at_ hlt1
        obtain ⟨b2, o2, hD2, _, hc2⟩ := (rb.up hbw).at_ hlt2
        subst hD1
        subst hD2
        have c1 := hc1 k hlt1
        have c2 := hc2 k hlt2
        have HCB := Lib.hid (cdB_at (ps := ps) hlt1 hlt2)
        clear hc1 hc2
        by_cases hq : 0 < (diffL hs[k].xs gs[k].xs ps).length
        · have HH := Lib.hid (alike_hit HAL.out HMIN.out (by rw [HCB.out]; simpa using hq))
          have e1 : (0 : Int) < ((diffL hs[k].xs gs[k].xs ps).length : Int) := by omega
          clear hq
          go_wp2_with fail
          go_region_held3 (fun w' => w'.cell? ⟨b1, o1 + k, none⟩ = some (.slice hs[k].a hs[k].xs.length hs[k].c) ∧ w'.cell? ⟨b2, o2 + k, none⟩ = some (.slice gs[k].a gs[k].xs.length gs[k].c)) (first | exact ⟨c1, c2⟩ | go_keep)
            (first
              | (go_at_call 86; refine (compared_any _ _ _ _ _ _ hs[k].xs gs[k].xs ps _ ?_ ?_ ?_ HFC.out m1 m2 hlp).mono ?_; (exact qa); (exact qb); (exact qp); rintro e w6 ⟨B, d, rfl, ho6, hb6⟩; have hb6 : Below wr.heap.size wr w6 := ⟨hb6.os, hb6.tape, hb6.output, hb6.size, hb6.block⟩; replace c1 := cell_later hb6 c1; replace c2 := cell_later hb6 c2; clear ho6)
            )
          go_wp2
          go_ret2
          exact ⟨ret_cd (by rw [HV.out, HH.out]) HC.out.symm, bs T2 (bs T5 (bs hbw hb6))⟩
        · have HH := Lib.hid (alike_succ HAL.out HMIN.out (by rw [HCB.out]; simpa using hq))
          have e1 : ¬ (0 : Int) < ((diffL hs[k].xs gs[k].xs ps).length : Int) := by omega
          clear hq
          go_wp2_with fail
          go_region_held3 (fun w' => w'.cell? ⟨b1, o1 + k, none⟩ = some (.slice hs[k].a hs[k].xs.length hs[k].c) ∧ w'.cell? ⟨b2, o2 + k, none⟩ = some (.slice gs[k].a gs[k].xs.length gs[k].c)) (first | exact ⟨c1, c2⟩ | go_keep)
            (first
              | (go_at_call 86; refine (compared_any _ _ _ _ _ _ hs[k].xs gs[k].xs ps _ ?_ ?_ ?_ HFC.out m1 m2 hlp).mono ?_; (exact qa); (exact qb); (exact qp); rintro e w6 ⟨B, d, rfl, ho6, hb6⟩; have hb6 : Below wr.heap.size wr w6 := ⟨hb6.os, hb6.tape, hb6.output, hb6.size, hb6.block⟩; replace c1 := cell_later hb6 c1; replace c2 := cell_later hb6 c2; clear ho6)
            )
          go_wp2
          go_roundw
          case rel => exact ⟨k + 1, by omega, by go_num, HH.out, bs hbw hb6⟩
          case measure => simp [intOf]; omega
      · have HEND := Lib.hid (alike_end HAL.out (show ¬ k < min (cards hs).length (cards gs).length by rw [cards_length, cards_length]; exact hlt))
        first | have j3 : ¬ (k : Int) < (hs.length : Int) := by omega | have j3 : ¬ (k : Int) < (gs.length : Int) := by omega
        by_cases he : hs.length = gs.length
        · have HE := Lib.hid (show cdFirst (cards hs) (cards gs) ps = -1 by rw [HEND.out, if_pos (by rw [cards_length, cards_length]; exact he)])
          have e1 := bne_f (a := (hs.length : Int)) (b := (gs.length : Int)) (by omega)
          have e2 := beq_t (a := (hs.length : Int)) (b := (gs.length : Int)) (by omega)
          clear he
          go_wp2
          go_ret2
          exact ⟨ret_cd (by rw [HV.out, HE.out]) HC.out.symm, bs T2 (bs T5 hbw)⟩
        · have HE := Lib.hid (show cdFirst (cards hs) (cards gs) ps = (min hs.length gs.length : Nat) by rw [HEND.out, if_neg (by rw [cards_length, cards_length]; exact he), cards_length, cards_length])
          have e1 := bne_t (a := (hs.length : Int)) (b := (gs.length : Int)) (by omega)
          have e2 := beq_f (a := (hs.length : Int)) (b := (gs.length : Int)) (by omega)
          clear he
          go_wp2
          go_ret2
          exact ⟨ret_cd (by rw [HV.out, HE.out]; first | omega | rfl) HC.out.symm, bs T2 (bs T5 hbw)⟩

set_option maxHeartbeats 4000000 in
theorem spCompareDecks_any (D : Option Addr) (c : Nat) (hs : List Hd) (L : List (List Int)) (D' : Option Addr) (c' : Nat) (gs : List Hd) (M : List (List Int)) (P : Option Addr) (cp : Nat) (ps : List (Int × Int)) (w : World) (ra : RdD w w.heap.size D hs) (hL : cards hs = L) (hl : hs.length + tot hs ≤ 1048576) (_hc : hs.length ≤ c) (rb : RdD w w.heap.size D' gs) (hM : cards gs = M) (hlg : gs.length + tot gs ≤ 1048576) (_hc' : gs.length ≤ c') (rp : Rd w w.heap.size 2 P ps.length (prs ps)) (hlp : ps.length ≤ 1048576) :
    Calls Try.prog 47 #[.slice D hs.length c, .slice D' gs.length c', .slice P ps.length cp] w fun e w' => e = .returned (.tuple #[.int .i64 (cdV L M ps), .int .i64 (cdC L M ps)]) ∧ Below w.heap.size w w' := by
  subst hL
  subst hM
  rcases Bool.eq_false_or_eq_true (deckOk (cards hs)) with h1 | h1
  case inr =>
    have HC := Lib.hid (cdC_1 (M := cards gs) (ps := ps) h1)
    have HV := Lib.hid (cdV_no (L := cards hs) (M := cards gs) (ps := ps) (by rw [HC.out]; decide))
    go_enter Try.func47, Try.ntmps47
    go_wp2_with fail
    refine (l02Deck_any _ _ hs _ ra hl).mono ?_; rintro e w1 ⟨rfl, hb1⟩
    go_wp2
    go_ret2
    exact ⟨ret_cd HV.out.symm HC.out.symm, hb1⟩
  rcases Bool.eq_false_or_eq_true (deckOk (cards gs)) with h2 | h2
  case inr =>
    have HC := Lib.hid (cdC_2 (L := cards hs) (ps := ps) h2)
    have HV := Lib.hid (cdV_no (L := cards hs) (M := cards gs) (ps := ps) (by rw [HC.out]; decide))
    go_enter Try.func47, Try.ntmps47
    go_wp2_with fail
    refine (l02Deck_any _ _ hs _ ra hl).mono ?_; rintro e w1 ⟨rfl, hb1⟩
    go_wp2_with fail
    refine (l02Deck_any _ _ gs _ (rb.up hb1) hlg).mono ?_; rintro e w2 ⟨rfl, hb2⟩
    go_wp2
    go_ret2
    exact ⟨ret_cd HV.out.symm HC.out.symm, bs hb1 hb2⟩
  have H1 := Lib.hid h1
  have H2 := Lib.hid h2
  rcases Bool.eq_false_or_eq_true (validB ps (deckW (cards hs) : Int) (deckW (cards gs) : Int)) with h3 | h3
  case inr =>
    have HC := Lib.hid (cdC_q h1 h2 h3)
    have HV := Lib.hid (cdV_no (L := cards hs) (M := cards gs) (ps := ps) (by rw [HC.out]; decide))
    go_enter Try.func47, Try.ntmps47
    go_wp2_with fail
    refine (l02Deck_any _ _ hs _ ra hl).mono ?_; rintro e w1 ⟨rfl, hb1⟩
    go_wp2_with fail
    refine (l02Deck_any _ _ gs _ (rb.up hb1) hlg).mono ?_; rintro e w2 ⟨rfl, hb2⟩
    have T2 := bs hb1 hb2
    replace ra := ra.up T2
    replace rb := rb.up T2
    replace rp := rp.up T2
    clear hb1 hb2
    go_wp2_with fail
    refine (l07WidthOf_any _ _ hs _ ra hl).mono ?_; rintro e w3 ⟨rfl, rfl⟩
    go_wp2_with fail
    refine (l07WidthOf_any _ _ gs _ rb hlg).mono ?_; rintro e w4 ⟨rfl, rfl⟩
    go_wp2_with fail
    refine (spValidCopies_any _ _ ps _ _ _ rp hlp).mono ?_; rintro e w5 ⟨rfl, T5⟩
    go_wp2
    go_ret2
    exact ⟨ret_cd HV.out.symm HC.out.symm, bs T2 T5⟩
  have HC := Lib.hid (cdC_q h1 h2 h3)
  have HV := Lib.hid (cdV_yes (L := cards hs) (M := cards gs) (ps := ps) (by rw [HC.out]; rfl))
  have HFF := Lib.hid (validB_fit h3)
  go_enter Try.func47, Try.ntmps47
  go_wp2_with fail
  refine (l02Deck_any _ _ hs _ ra hl).mono ?_; rintro e w1 ⟨rfl, hb1⟩
  go_wp2_with fail
  refine (l02Deck_any _ _ gs _ (rb.up hb1) hlg).mono ?_; rintro e w2 ⟨rfl, hb2⟩
  have T2 := bs hb1 hb2
  replace ra := ra.up T2
  replace rb := rb.up T2
  replace rp := rp.up T2
  clear hb1 hb2
  go_wp2_with fail
  refine (l07WidthOf_any _ _ hs _ ra hl).mono ?_; rintro e w3 ⟨rfl, rfl⟩
  go_wp2_with fail
  refine (l07WidthOf_any _ _ gs _ rb hlg).mono ?_; rintro e w4 ⟨rfl, rfl⟩
  go_wp2_with fail
  refine (spValidCopies_any _ _ ps _ _ _ rp hlp).mono ?_; rintro e w5 ⟨rfl, T5⟩
  replace ra := ra.up T5
  replace rb := rb.up T5
  replace rp := rp.up T5
  have T5b := T5
  go_wp2
  go_loopw [8] (fun i wr => ∃ k : Nat, k ≤ min hs.length gs.length ∧ i = .int .i64 k ∧ AlikeTo (cards hs) (cards gs) ps k ∧ Below w5.heap.size w5 wr) (fun i _ => hs.length - (intOf i).toNat)
  case atStart => exact ⟨0, Nat.zero_le _, rfl, alike_zero _ _ _, b0 _⟩
  case round =>
    obtain ⟨k, hk, rfl, hal, hbw⟩ := hrel
    have HAL := Lib.hid hal
    clear hal
    by_cases hlt : k < min hs.length gs.length
    · have hlt1 : k < hs.length := by omega
      have hlt2 : k < gs.length := by omega
      have i1 : (k : Int) < (hs.length : Int) := by omega
      have i2 : (k : Int) < (gs.length : Int) := by omega
      have HMIN := Lib.hid (show k < min (cards hs).length (cards gs).length by rw [cards_length, cards_length]; exact hlt)
      have qa := (ra.up hbw).card_at hlt1
      have qb := (rb.up hbw).card_at hlt2
      have qp := rp.up hbw
      have HFC := Lib.hid (show FitC ps hs[k].xs.length gs[k].xs.length by rw [deck_len H1.out hlt1, deck_len H2.out hlt2]; exact HFF.out)
      have m1 := (cardOk_len (deckOk_hd H1.out hlt1).1).2
      have m2 := (cardOk_len (deckOk_hd H2.out hlt2).1).2
      obtain ⟨b1, o1, hD1, _, hc1⟩ := (ra.up hbw).at_ hlt1
      obtain ⟨b2, o2, hD2, _, hc2⟩ := (rb.up hbw).at_ hlt2
      subst hD1
      subst hD2
      have c1 := hc1 k hlt1
      have c2 := hc2 k hlt2
      have HCB := Lib.hid (cdB_at (ps := ps) hlt1 hlt2)
      clear hc1 hc2
      by_cases hq : 0 < (diffL hs[k].xs gs[k].xs ps).length
      · have HH := Lib.hid (alike_hit HAL.out HMIN.out (by rw [HCB.out]; simpa using hq))
        have e1 : (0 : Int) < ((diffL hs[k].xs gs[k].xs ps).length : Int) := by omega
        clear hq
        go_wp2_with fail
        go_region_held3 (fun w' => w'.cell? ⟨b1, o1 + k, none⟩ = some (.slice hs[k].a hs[k].xs.length hs[k].c) ∧ w'.cell? ⟨b2, o2 + k, none⟩ = some (.slice gs[k].a gs[k].xs.length gs[k].c)) (first | exact ⟨c1, c2⟩ | go_keep)
          (first
            | (go_at_call 83; refine (l10Differ_any b1 (o1 + k) b2 (o2 + k) hs[k].a gs[k].a _ hs[k].c gs[k].c _ hs[k].xs gs[k].xs ps _ ?_ ?_ ?_ ?_ ?_ HFC.out m1 m2 hlp).mono ?_; (exact c1); (exact c2); (exact qa); (exact qb); (exact qp); rintro e w6 ⟨B, d, rfl, ho6, hb6⟩; have hb6 : Below wr.heap.size wr w6 := ⟨hb6.os, hb6.tape, hb6.output, hb6.size, hb6.block⟩; replace c1 := cell_later hb6 c1; replace c2 := cell_later hb6 c2; clear ho6)
          )
        go_wp2
        go_ret2
        exact ⟨ret_cd (by rw [HV.out, HH.out]) HC.out.symm, bs T2 (bs T5 (bs hbw hb6))⟩
      · have HH := Lib.hid (alike_succ HAL.out HMIN.out (by rw [HCB.out]; simpa using hq))
        have e1 : ¬ (0 : Int) < ((diffL hs[k].xs gs[k].xs ps).length : Int) := by omega
        clear hq
        go_wp2_with fail
        go_region_held3 (fun w' => w'.cell? ⟨b1, o1 + k, none⟩ = some (.slice hs[k].a hs[k].xs.length hs[k].c) ∧ w'.cell? ⟨b2, o2 + k, none⟩ = some (.slice gs[k].a gs[k].xs.length gs[k].c)) (first | exact ⟨c1, c2⟩ | go_keep)
          (first
            | (go_at_call 83; refine (l10Differ_any b1 (o1 + k) b2 (o2 + k) hs[k].a gs[k].a _ hs[k].c gs[k].c _ hs[k].xs gs[k].xs ps _ ?_ ?_ ?_ ?_ ?_ HFC.out m1 m2 hlp).mono ?_; (exact c1); (exact c2); (exact qa); (exact qb); (exact qp); rintro e w6 ⟨B, d, rfl, ho6, hb6⟩; have hb6 : Below wr.heap.size wr w6 := ⟨hb6.os, hb6.tape, hb6.output, hb6.size, hb6.block⟩; replace c1 := cell_later hb6 c1; replace c2 := cell_later hb6 c2; clear ho6)
          )
        go_wp2
        go_roundw
        case rel => exact ⟨k + 1, by omega, by go_num, HH.out, bs hbw hb6⟩
        case measure => simp [intOf]; omega
    · have HEND := Lib.hid (alike_end HAL.out (show ¬ k < min (cards hs).length (cards gs).length by rw [cards_length, cards_length]; exact hlt))
      rcases (show ¬ (k : Int) < (hs.length : Int) ∨ ((k : Int) < (hs.length : Int) ∧ ¬ (k : Int) < (gs.length : Int)) by omega) with j3 | ⟨j3, j4⟩
      all_goals
        by_cases he : hs.length = gs.length
        · have HE := Lib.hid (show cdFirst (cards hs) (cards gs) ps = -1 by rw [HEND.out, if_pos (by rw [cards_length, cards_length]; exact he)])
          have e1 := bne_f (a := (hs.length : Int)) (b := (gs.length : Int)) (by omega)
          have e2 := beq_t (a := (hs.length : Int)) (b := (gs.length : Int)) (by omega)
          clear he
          go_wp2
          go_ret2
          exact ⟨ret_cd (by rw [HV.out, HE.out]) HC.out.symm, bs T2 (bs T5 hbw)⟩
        · have HE := Lib.hid (show cdFirst (cards hs) (cards gs) ps = (min hs.length gs.length : Nat) by rw [HEND.out, if_neg (by rw [cards_length, cards_length]; exact he), cards_length, cards_length])
          have e1 := bne_t (a := (hs.length : Int)) (b := (gs.length : Int)) (by omega)
          have e2 := beq_f (a := (hs.length : Int)) (b := (gs.length : Int)) (by omega)
          clear he
          go_wp2_with fail
          refine (l00Min_any _ _ _).mono ?_; rintro e w7 ⟨rfl, rfl⟩
          go_wp2
          go_ret2
          exact ⟨ret_cd (by rw [HV.out, HE.out]; first | omega | rfl) HC.out.symm, bs T2 (bs T5 hbw)⟩
end Go.Proofs.Ytlnpkijeondidaa
