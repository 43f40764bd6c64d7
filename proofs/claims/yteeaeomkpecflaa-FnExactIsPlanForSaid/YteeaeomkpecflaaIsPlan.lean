/- IsPlanFor; in the program. -/
import Derived.Test.YteeaeomkpecflaaPlanFor
import Derived.Test.YteeaeomkpecflaaPlan
import Derived.Test.YteeaeomkpecflaaIdle
import Derived.Test.YteeaeomkpecflaaLater
namespace Go.Proofs.Yteeaeomkpecflaa
open Go.RowKit

def ipC (L : List (List Int)) (ps : List (Int × Int)) (a b : Int) : Int := if deckOk L = true then (if passesOk (deckW L : Int) ps = true then codeK L a b else 2) else 1
def ipR (L : List (List Int)) (ps : List (Int × Int)) (a b : Int) : Bool := decide (ipC L ps a b = 0) && decide (runL L ps = sortedL L a b)
theorem ipR_no {L : List (List Int)} {ps : List (Int × Int)} {a b : Int} (h : ipC L ps a b ≠ 0) : ipR L ps a b = false := by unfold ipR; rw [decide_eq_false h]; rfl
theorem ipR_yes {L : List (List Int)} {ps : List (Int × Int)} {a b : Int} (h : ipC L ps a b = 0) : ipR L ps a b = decide (runL L ps = sortedL L a b) := by unfold ipR; rw [decide_eq_true h]; rfl
theorem ipC_1 {L : List (List Int)} {ps : List (Int × Int)} {a b : Int} (h : deckOk L = false) : ipC L ps a b = 1 ∧ ipR L ps a b = false := by
  have h1 : ipC L ps a b = 1 := by unfold ipC; rw [if_neg (by simp [h])]
  exact ⟨h1, ipR_no (by rw [h1]; decide)⟩
theorem ipC_p {L : List (List Int)} {ps : List (Int × Int)} {a b : Int} (h : deckOk L = true) (h2 : passesOk (deckW L : Int) ps = false) : ipC L ps a b = 2 ∧ ipR L ps a b = false := by
  have h1 : ipC L ps a b = 2 := by unfold ipC; rw [if_pos h, if_neg (by simp [h2])]
  exact ⟨h1, ipR_no (by rw [h1]; decide)⟩
theorem ipC_k {L : List (List Int)} {ps : List (Int × Int)} {a b : Int} (h : deckOk L = true) (h2 : passesOk (deckW L : Int) ps = true) : ipC L ps a b = codeK L a b := by unfold ipC; rw [if_pos h, if_pos h2]
theorem ipC_f {L : List (List Int)} {ps : List (Int × Int)} {a b : Int} (h : deckOk L = true) (h2 : fieldOk a b (deckW L : Int) = false) : ipC L ps a b = 2 ∧ ipR L ps a b = false := by
  have h1 : ipC L ps a b = 2 := by
    unfold ipC
    rw [if_pos h]
    split
    · exact codeK_2 h h2
    · rfl
  exact ⟨h1, ipR_no (by rw [h1]; decide)⟩
theorem ipC_8 {L : List (List Int)} {ps : List (Int × Int)} {a b : Int} (h : deckOk L = true) (h2 : passesOk (deckW L : Int) ps = true) (h3 : fieldOk a b (deckW L : Int) = true) (h4 : haveF L a b = false) : ipC L ps a b = 8 ∧ ipR L ps a b = false := by
  have h1 : ipC L ps a b = 8 := by rw [ipC_k h h2]; exact codeK_8 h h3 h4
  exact ⟨h1, ipR_no (by rw [h1]; decide)⟩
theorem ipC_0 {L : List (List Int)} {ps : List (Int × Int)} {a b : Int} (h : deckOk L = true) (h2 : passesOk (deckW L : Int) ps = true) (h3 : fieldOk a b (deckW L : Int) = true) (h4 : haveF L a b = true) : ipC L ps a b = 0 ∧ ipR L ps a b = decide (runL L ps = sortedL L a b) := by
  have h1 : ipC L ps a b = 0 := by rw [ipC_k h h2]; exact codeK_0 h h3 h4
  exact ⟨h1, ipR_yes h1⟩

set_option maxRecDepth 20000 in
set_option maxHeartbeats 4000000 in
theorem IsPlanFor_any (D : Option Addr) (c : Nat) (hs : List Hd) (L : List (List Int)) (a b : Int) (A : Option Addr) (cp : Nat) (ps : List (Int × Int)) (w : World) (ha : RdD w w.heap.size D hs) (hL : cards hs = L) (hl : hs.length + tot hs ≤ 1048576) (_hc : hs.length ≤ c) (hb : Rd w w.heap.size 2 A ps.length (prs ps)) (hlp : ps.length ≤ 1048576) :
    Calls Try.prog 36 #[.slice D hs.length c, .agg #[.int .i64 a, .int .i64 b], .slice A ps.length cp] w fun e w' => e = .returned (.tuple #[.bool (ipR L ps a b), .int .i64 (ipC L ps a b)]) ∧ Below w.heap.size w w' := by
  subst hL
  have T0 : Below w.heap.size w (w.alloc (.cells #[.int .i64 a, .int .i64 b] 31)) := ba (b0 w) _
  have ra := ha.a1 (.cells #[.int .i64 a, .int .i64 b] 31)
  have rp := hb.a1 (.cells #[.int .i64 a, .int .i64 b] 31)
  have p0 : (w.alloc (.cells #[.int .i64 a, .int .i64 b] 31)).cell? ⟨w.heap.size, 0, none⟩ = some (.int .i64 a) := cell_new rfl rfl
  have p1 : (w.alloc (.cells #[.int .i64 a, .int .i64 b] 31)).cell? ⟨w.heap.size, 1, none⟩ = some (.int .i64 b) := cell_new rfl rfl
  rcases Bool.eq_false_or_eq_true (deckOk (cards hs)) with h1 | h1
  · have hw := deckOk_wid h1
    have H1 := Lib.hid h1
    have HVD := Lib.hid (show ∀ W : World, RdD W W.heap.size D hs → Calls Try.prog 79 #[.slice D hs.length c] W fun e w' => e = .returned (.bool true) ∧ Below W.heap.size W w' from fun W x => by
      have := ValidDeck_any D c hs W x hl
      rwa [h1] at this)
    rcases Bool.eq_false_or_eq_true (fieldOk a b (deckW (cards hs) : Int)) with h2 | h2
    · have HF := Lib.hid (show ∀ W : World, Calls Try.prog 80 #[.agg #[.int .i64 a, .int .i64 b], .int .i64 (deckW (cards hs) : Int)] W fun e w' => e = .returned (.bool true) ∧ Below W.heap.size W w' from fun W => by
        have := isField_any a b (deckW (cards hs) : Int) W
        rwa [h2] at this)
      rcases Bool.eq_false_or_eq_true (passesOk (deckW (cards hs) : Int) ps) with h3 | h3
      · have HP := Lib.hid (show ∀ W : World, Rd W W.heap.size 2 A ps.length (prs ps) → Calls Try.prog 81 #[.slice A ps.length cp, .int .i64 (deckW (cards hs) : Int)] W fun e w' => e = .returned (.bool true) ∧ Below W.heap.size W w' from fun W x => by
          have := arePasses_any A cp ps (deckW (cards hs) : Int) W x hlp (by omega) (by omega)
          rwa [h3] at this)
        have H3 := Lib.hid h3
        obtain ⟨i, j, rfl, rfl, hij, hjw⟩ := fieldOk_nat h2
        rcases Bool.eq_false_or_eq_true (haveF (cards hs) (i : Int) (j : Int)) with h4 | h4
        · have HC := Lib.hid (ipC_0 h1 h3 h2 h4)
          have HH := Lib.hid (show ∀ W : World, RdD W W.heap.size D hs → Calls Try.prog 82 #[.slice D hs.length c, .agg #[.int .i64 (i : Int), .int .i64 (j : Int)]] W fun e w' => e = .returned (.bool true) ∧ Below W.heap.size W w' from fun W x => by
            have := haveField_any D c hs i j W x h1 hij hjw hl
            rwa [h4] at this)
          clear h1 h2 h3 h4
          go_enter Try.func36, Try.ntmps36
          go_wp2_with fail
          refine (HVD.out _ ra).mono ?_; rintro e w1 ⟨rfl, hb1⟩
          have T1 := bs T0 hb1
          have ra1 := ra.up hb1
          have rp1 := rp.up hb1
          have q0 := cell_later hb1 p0
          have q1 := cell_later hb1 p1
          have l1 := fun x : Later w1 => lat_cell x q0
          have l2 := fun x : Later w1 => lat_cell x q1
          clear hb1 p0 p1 ra rp ha hb
          go_wp2_with fail
          refine wp_region_later (by kernel_rfl) (by kernel_rfl) ?_
          repeat (go_big_quiet_step ((first | (go_at_call 66; exact lat_call (deckColumns_any _ _ hs _ (ra1.up (Later.below _)) hl)) | (go_at_call 80; exact lat_call (HF.out _)) | (go_at_call 81; exact lat_call (HP.out _ (rp1.up (Later.below _)))))))
          refine wpQuiet_nil ?_
          intro w2 hb2
          have ra2 := ra1.up hb2
          have rp2 := rp1.up hb2
          have q2 := cell_later hb2 q0
          have q3 := cell_later hb2 q1
          have T2 := bs T1 hb2
          clear l1 l2 q0 q1 ra1 rp1 hb2 T1
          go_wp2_with fail
          refine (HH.out _ ra2).mono ?_; rintro e w3 ⟨rfl, hb3⟩
          have ra3 := ra2.up hb3
          have rp3 := rp2.up hb3
          have q4 := cell_later hb3 q2
          have q5 := cell_later hb3 q3
          have T3 := bs T2 hb3
          clear q2 q3 ra2 rp2 hb3 T2
          go_wp2_with fail
          refine (isPlanFor_any _ _ hs i j _ _ ps _ ra3 H1.out hij hjw hl rp3 hlp H3.out).mono ?_; rintro e w4 ⟨rfl, hb4⟩
          go_wp2
          go_ret2
          exact ⟨ret_bi HC.out.2.symm HC.out.1.symm, bs T3 hb4⟩
        · have HC := Lib.hid (ipC_8 h1 h3 h2 h4)
          have HH := Lib.hid (show ∀ W : World, RdD W W.heap.size D hs → Calls Try.prog 82 #[.slice D hs.length c, .agg #[.int .i64 (i : Int), .int .i64 (j : Int)]] W fun e w' => e = .returned (.bool false) ∧ Below W.heap.size W w' from fun W x => by
            have := haveField_any D c hs i j W x h1 hij hjw hl
            rwa [h4] at this)
          clear h1 h2 h3 h4
          go_enter Try.func36, Try.ntmps36
          go_wp2_with fail
          refine (HVD.out _ ra).mono ?_; rintro e w1 ⟨rfl, hb1⟩
          have T1 := bs T0 hb1
          have ra1 := ra.up hb1
          have rp1 := rp.up hb1
          have q0 := cell_later hb1 p0
          have q1 := cell_later hb1 p1
          have l1 := fun x : Later w1 => lat_cell x q0
          have l2 := fun x : Later w1 => lat_cell x q1
          clear hb1 p0 p1 ra rp ha hb
          go_wp2_with fail
          refine wp_region_later (by kernel_rfl) (by kernel_rfl) ?_
          repeat (go_big_quiet_step ((first | (go_at_call 66; exact lat_call (deckColumns_any _ _ hs _ (ra1.up (Later.below _)) hl)) | (go_at_call 80; exact lat_call (HF.out _)) | (go_at_call 81; exact lat_call (HP.out _ (rp1.up (Later.below _)))))))
          refine wpQuiet_nil ?_
          intro w2 hb2
          have ra2 := ra1.up hb2
          have q2 := cell_later hb2 q0
          have q3 := cell_later hb2 q1
          have T2 := bs T1 hb2
          clear l1 l2 q0 q1 ra1 rp1 hb2 T1
          go_wp2_with fail
          refine (HH.out _ ra2).mono ?_; rintro e w3 ⟨rfl, hb3⟩
          go_wp2
          go_ret2
          exact ⟨ret_bi HC.out.2.symm HC.out.1.symm, bs T2 hb3⟩
      · have HP := Lib.hid (show ∀ W : World, Rd W W.heap.size 2 A ps.length (prs ps) → Calls Try.prog 81 #[.slice A ps.length cp, .int .i64 (deckW (cards hs) : Int)] W fun e w' => e = .returned (.bool false) ∧ Below W.heap.size W w' from fun W x => by
          have := arePasses_any A cp ps (deckW (cards hs) : Int) W x hlp (by omega) (by omega)
          rwa [h3] at this)
        have HC := Lib.hid (ipC_p (a := a) (b := b) h1 h3)
        clear h1 h2 h3
        go_enter Try.func36, Try.ntmps36
        go_wp2_with fail
        refine (HVD.out _ ra).mono ?_; rintro e w1 ⟨rfl, hb1⟩
        have T1 := bs T0 hb1
        have ra1 := ra.up hb1
        have rp1 := rp.up hb1
        have q0 := cell_later hb1 p0
        have q1 := cell_later hb1 p1
        have l1 := fun x : Later w1 => lat_cell x q0
        have l2 := fun x : Later w1 => lat_cell x q1
        clear hb1 p0 p1 ra rp ha hb
        go_wp2_with fail
        refine wp_region_later (by kernel_rfl) (by kernel_rfl) ?_
        repeat (go_big_quiet_step ((first | (go_at_call 66; exact lat_call (deckColumns_any _ _ hs _ (ra1.up (Later.below _)) hl)) | (go_at_call 80; exact lat_call (HF.out _)) | (go_at_call 81; exact lat_call (HP.out _ (rp1.up (Later.below _)))))))
        refine wpQuiet_nil ?_
        intro w2 hb2
        go_wp2
        go_ret2
        exact ⟨ret_bi HC.out.2.symm HC.out.1.symm, bs T1 hb2⟩
    · have HF := Lib.hid (show ∀ W : World, Calls Try.prog 80 #[.agg #[.int .i64 a, .int .i64 b], .int .i64 (deckW (cards hs) : Int)] W fun e w' => e = .returned (.bool false) ∧ Below W.heap.size W w' from fun W => by
        have := isField_any a b (deckW (cards hs) : Int) W
        rwa [h2] at this)
      have HC := Lib.hid (ipC_f (ps := ps) h1 h2)
      clear h1 h2
      go_enter Try.func36, Try.ntmps36
      go_wp2_with fail
      refine (HVD.out _ ra).mono ?_; rintro e w1 ⟨rfl, hb1⟩
      have T1 := bs T0 hb1
      have ra1 := ra.up hb1
      have q0 := cell_later hb1 p0
      have q1 := cell_later hb1 p1
      have l1 := fun x : Later w1 => lat_cell x q0
      have l2 := fun x : Later w1 => lat_cell x q1
      clear hb1 p0 p1 ra rp ha hb
      go_wp2_with fail
      refine wp_region_later (by kernel_rfl) (by kernel_rfl) ?_
      repeat (go_big_quiet_step ((first | (go_at_call 66; exact lat_call (deckColumns_any _ _ hs _ (ra1.up (Later.below _)) hl)) | (go_at_call 80; exact lat_call (HF.out _)))))
      refine wpQuiet_nil ?_
      intro w2 hb2
      go_wp2
      go_ret2
      exact ⟨ret_bi HC.out.2.symm HC.out.1.symm, bs T1 hb2⟩
  · have HC := Lib.hid (ipC_1 (ps := ps) (a := a) (b := b) h1)
    have HVD := Lib.hid (show ∀ W : World, RdD W W.heap.size D hs → Calls Try.prog 79 #[.slice D hs.length c] W fun e w' => e = .returned (.bool false) ∧ Below W.heap.size W w' from fun W x => by
      have := ValidDeck_any D c hs W x hl
      rwa [h1] at this)
    clear h1
    go_enter Try.func36, Try.ntmps36
    go_wp2_with fail
    refine (HVD.out _ ra).mono ?_; rintro e w1 ⟨rfl, hb1⟩
    go_wp2
    go_ret2
    exact ⟨ret_bi HC.out.2.symm HC.out.1.symm, bs T0 hb1⟩
end Go.Proofs.Yteeaeomkpecflaa
