/- FindCards; in the program and in the reference. -/
import Derived.Test.YtdppmlchabogaaaSelectAll
import Derived.Test.YtdppmlchabogaaaKeysAll
import Derived.Test.YtdppmlchabogaaaNearAll
import Derived.Test.YtdppmlchabogaaaSortPass
namespace Go.Proofs.Ytdppmlchabogaaa
open Go.RowKit

/-- How many of the first k cards are below a text, and how many have it. -/
def lowP (s : ByteArray) (a b : Int) (x : List Int) : Bool := decide (cmpT (textL (part x a b)) (byt s) = -1)
def eqlP (s : ByteArray) (a b : Int) (x : List Int) : Bool := decide (cmpT (textL (part x a b)) (byt s) = 0)
def cntP (p : List Int → Bool) (L : List (List Int)) (k : Nat) : Int := (((L.take k).filter p).length : Int)
theorem cntP_yes {p : List Int → Bool} {L : List (List Int)} {k : Nat} (hk : k < L.length) (h : p L[k] = true) : cntP p L (k + 1) = cntP p L k + 1 := by
  unfold cntP
  rw [filter_yes hk h, List.length_append]
  simp
theorem cntP_no {p : List Int → Bool} {L : List (List Int)} {k : Nat} (hk : k < L.length) (h : p L[k] = false) : cntP p L (k + 1) = cntP p L k := by
  unfold cntP
  rw [filter_no hk h]
theorem cntP_range (p : List Int → Bool) (L : List (List Int)) (k : Nat) : 0 ≤ cntP p L k ∧ cntP p L k ≤ k := by
  unfold cntP
  have h1 := List.length_filter_le p (L.take k)
  have h2 := List.length_take_le k L
  omega
theorem cmpN_three : ∀ s t : List Int, cmpN s t = -1 ∨ cmpN s t = 0 ∨ cmpN s t = 1
  | [], _ => .inr (.inl (by simp [cmpN]))
  | _ :: _, [] => .inr (.inl (by simp [cmpN]))
  | x :: xs, y :: ys => by
    unfold cmpN
    split
    · exact .inl rfl
    · split
      · exact .inr (.inr rfl)
      · exact cmpN_three xs ys
def fndC (L : List (List Int)) (a b : Int) (s : ByteArray) : Int := if colC [L] true [s] a b = 0 then (if (stepsL L a b L.length).length = 0 then 0 else 6) else colC [L] true [s] a b
def fndA (L : List (List Int)) (a b : Int) (s : ByteArray) : Int := if fndC L a b s = 0 then cntP (lowP s a b) L L.length else 0
def fndB (L : List (List Int)) (a b : Int) (s : ByteArray) : Int := if fndC L a b s = 0 then cntP (eqlP s a b) L L.length else 0
theorem fndC_0 {L : List (List Int)} {a b : Int} {s : ByteArray} (h : colC [L] true [s] a b = 0) (h2 : (stepsL L a b L.length).length = 0) : fndC L a b s = 0 := by unfold fndC; rw [if_pos h, if_pos h2]
theorem fndC_6 {L : List (List Int)} {a b : Int} {s : ByteArray} (h : colC [L] true [s] a b = 0) (h2 : (stepsL L a b L.length).length ≠ 0) : fndC L a b s = 6 := by unfold fndC; rw [if_pos h, if_neg h2]
theorem fndC_e {L : List (List Int)} {a b : Int} {s : ByteArray} (h : colC [L] true [s] a b ≠ 0) : fndC L a b s = colC [L] true [s] a b := by unfold fndC; rw [if_neg h]
theorem fndA_0 {L : List (List Int)} {a b : Int} {s : ByteArray} (h : fndC L a b s = 0) : fndA L a b s = cntP (lowP s a b) L L.length := by unfold fndA; rw [if_pos h]
theorem fndB_0 {L : List (List Int)} {a b : Int} {s : ByteArray} (h : fndC L a b s = 0) : fndB L a b s = cntP (eqlP s a b) L L.length := by unfold fndB; rw [if_pos h]
theorem fndA_1 {L : List (List Int)} {a b : Int} {s : ByteArray} (h : fndC L a b s ≠ 0) : fndA L a b s = 0 := by unfold fndA; rw [if_neg h]
theorem fndB_1 {L : List (List Int)} {a b : Int} {s : ByteArray} (h : fndC L a b s ≠ 0) : fndB L a b s = 0 := by unfold fndB; rw [if_neg h]
theorem lowP_of {x : List Int} {s : ByteArray} {a b z : Int} (hz : z = cmpT (textL (part x a b)) (byt s)) : lowP s a b x = decide (z = -1) := by rw [hz]; rfl
theorem eqlP_of {x : List Int} {s : ByteArray} {a b z : Int} (hz : z = cmpT (textL (part x a b)) (byt s)) : eqlP s a b x = decide (z = 0) := by rw [hz]; rfl

set_option maxHeartbeats 1000000 in
theorem isAscending_any (D : Option Addr) (c : Nat) (hs : List Hd) (i j : Nat) (r : Bool) (w : World) (ha : RdD w w.heap.size D hs) (hok : deckOk (cards hs) = true) (hij : i < j) (hj : j ≤ deckW (cards hs)) (hl : hs.length + tot hs ≤ 1048576) (hr : r = decide ((stepsL (cards hs) (i : Int) (j : Int) (cards hs).length).length = 0)) :
    Calls Try.prog 129 #[.slice D hs.length c, .agg #[.int .i64 (i : Int), .int .i64 (j : Int)]] w fun e w' => e = .returned (.bool r) ∧ Below w.heap.size w w' := by
  have T0 : Below w.heap.size w (w.alloc (.cells #[.int .i64 (i : Int), .int .i64 (j : Int)] 27)) := ba (b0 w) _
  have ra := ha.a1 (.cells #[.int .i64 (i : Int), .int .i64 (j : Int)] 27)
  have HCL := Lib.hid (cards_length hs)
  have HR := Lib.hid hr
  have HOK := Lib.hid hok
  clear hr hok
  go_enter Try.func129, Try.ntmps129
  go_wp2_with fail
  refine (steps_any _ _ hs i j _ ra HOK.out hij hj hl).mono ?_; rintro e w2 ⟨G, cg, rfl, hown, hb2⟩
  go_wp2
  go_ret
  exact ⟨ret_bool (by rw [HR.out, HCL.out]; exact beq_zero_dec _), bs T0 hb2⟩

/-- Behind k cards. -/
def FiR (L : List (List Int)) (a b : Int) (s : ByteArray) (w wr : World) (u v q : Value) : Prop := ∃ k : Nat, k ≤ L.length ∧ q = .int .i64 k ∧ u = .int .i64 (cntP (lowP s a b) L k) ∧ v = .int .i64 (cntP (eqlP s a b) L k) ∧ Below w.heap.size w wr

set_option maxRecDepth 20000 in
set_option maxHeartbeats 4000000 in
theorem FindCards_any (D : Option Addr) (c : Nat) (hs : List Hd) (L : List (List Int)) (a b : Int) (s : ByteArray) (w : World) (ha : RdD w w.heap.size D hs) (hL : cards hs = L) (hl : hs.length + tot hs ≤ 1048576) (hc : hs.length ≤ c) (hq1 : s.size ≤ 1048576) :
    Calls Try.prog 43 #[.slice D hs.length c, .agg #[.int .i64 a, .int .i64 b], .string s] w fun e w' => e = .returned (.tuple #[.int .i64 (fndA L a b s), .int .i64 (fndB L a b s), .int .i64 (fndC L a b s)]) ∧ Below w.heap.size w w' := by
  subst hL
  obtain ⟨W, hW⟩ : ∃ W, W = ((w.alloc (.cells #[.int .i64 a, .int .i64 b] 27)).alloc (.cells #[.string s] 9)).alloc (.cells #[.slice D hs.length c] 24) := ⟨_, rfl⟩
  have T0 : Below w.heap.size w W := by rw [hW]; exact ba (ba (ba (b0 w) _) _) _
  have ra : RdD W W.heap.size D hs := by rw [hW]; exact ((ha.a1 _).a1 _).a1 _
  have k1 : W.cell? ⟨w.heap.size, 0, none⟩ = some (.int .i64 a) := by rw [hW]; exact cell_alloc (cell_alloc (cell_new rfl rfl) _) _
  have k2 : W.cell? ⟨w.heap.size, 1, none⟩ = some (.int .i64 b) := by rw [hW]; exact cell_alloc (cell_alloc (cell_new rfl rfl) _) _
  have k5 : W.cell? ⟨w.heap.size + 1, 0, none⟩ = some (.string s) := by rw [hW]; exact cell_alloc (cell_new (by simp) rfl) _
  have k7 : W.cell? ⟨w.heap.size + 1 + 1, 0, none⟩ = some (.slice D hs.length c) := by rw [hW]; exact cell_new (by simp) rfl
  have rts := rd_str1 k5
  have HW := Lib.hid hW
  have hts : ∀ k (h : k < [s].length), [s][k].size ≤ 1048576 := by
    intro k h
    match k, h with
    | 0, _ => exact hq1
  have HCO := Lib.hid (collateT_any a b (some ⟨w.heap.size + 1, 0, none⟩) 1 [s] (w.heap.size + 1 + 1) D c hs W k7 ra hc hl rts (by simp) hts)
  have HCL := Lib.hid (cards_length hs)
  clear hW k5 k7 rts ha hts
  by_cases hz : colC [cards hs] true [s] a b = 0
  · obtain ⟨hk, hlen, hcha⟩ := colC_zero hz
    obtain ⟨h1, h2, h3⟩ := codeK_zero hk
    obtain ⟨i, j, rfl, rfl, hij, hjw⟩ := fieldOk_nat h2
    have h40 : hs.length ≤ 40 := by have := deckOk_len h1; rwa [cards_length] at this
    have HZ := Lib.hid hz
    have H1 := Lib.hid h1
    have H3 := Lib.hid h3
    simp only [List.all_cons, List.all_nil, Bool.and_true, Bool.and_eq_true] at hlen hcha
    have HLS := Lib.hid (lenB_nat hij hlen)
    have HCS := Lib.hid hcha
    have HC0 := Lib.hid (@fndC_0 (cards hs) (i : Int) (j : Int) s hz)
    have HC6 := Lib.hid (@fndC_6 (cards hs) (i : Int) (j : Int) s hz)
    clear hz hk h1 h2 h3 hlen hcha
    by_cases hst : (stepsL (cards hs) (i : Int) (j : Int) (cards hs).length).length = 0
    · have HC := Lib.hid (HC0.out hst)
      have HA := Lib.hid (fndA_0 HC.out)
      have HB := Lib.hid (fndB_0 HC.out)
      have HT := Lib.hid (show true = decide ((stepsL (cards hs) (i : Int) (j : Int) (cards hs).length).length = 0) by rw [decide_eq_true hst])
      clear hst HC0 HC6
      go_enter Try.func43, Try.ntmps43
      go_wp2_with fail
      rw [← HW.out]
      refine HCO.out.mono ?_; rintro e w1 ⟨rfl, hb1⟩
      have e0 : colC [cards hs] true [s] (i : Int) (j : Int) = 0 := HZ.out
      have q1 := cell_later hb1 k1
      have q2 := cell_later hb1 k2
      go_wp2_with fail
      refine (isAscending_any D c hs i j true _ (ra.up hb1) H1.out hij hjw hl HT.out).mono ?_; rintro e w2 ⟨rfl, hb2⟩
      replace q1 := cell_later hb2 q1
      replace q2 := cell_later hb2 q2
      have T2 := bs (bs T0 hb1) hb2
      have r2 := (ra.up hb1).up hb2
      clear k1 k2 hb1 hb2 ra e0
      go_wp2
      go_loopw [10, 11, 13, 31] (fun u v _ q wr => FiR (cards hs) (i : Int) (j : Int) s w2 wr u v q) (fun _ _ _ q _ => hs.length - (intOf q).toNat)
      case atStart => exact ⟨0, Nat.zero_le _, rfl, rfl, rfl, b0 _⟩
      case round =>
        obtain ⟨wo, rfl⟩ : ∃ wo : World, wo = wr := ⟨_, rfl⟩
        obtain ⟨k, hk, rfl, rfl, rfl, hbw⟩ := hrel
        have hk' : k ≤ hs.length := by rw [← HCL.out]; exact hk
        have r1 := cntP_range (lowP s (i : Int) (j : Int)) (cards hs) k
        have r2' := cntP_range (eqlP s (i : Int) (j : Int)) (cards hs) k
        clear hk
        by_cases hlt : k < hs.length
        · have hkL : k < (cards hs).length := by rw [HCL.out]; exact hlt
          have HKC := Lib.hid hkL
          have HCA := Lib.hid (cards_at hs k HKC.out)
          obtain ⟨z, hz⟩ : ∃ z, z = cmpT (textL (part hs[k].xs (i : Int) (j : Int))) (byt s) := ⟨_, rfl⟩
          have HZT := Lib.hid hz
          have hz3 : z = -1 ∨ z = 0 ∨ z = 1 := by rw [hz]; exact cmpN_three _ _
          have HLO := Lib.hid (show lowP s (i : Int) (j : Int) ((cards hs)[k]'HKC.out) = decide (z = -1) by rw [HCA.out]; exact lowP_of hz)
          have HEQ := Lib.hid (show eqlP s (i : Int) (j : Int) ((cards hs)[k]'HKC.out) = decide (z = 0) by rw [HCA.out]; exact eqlP_of hz)
          have HLEG := Lib.hid (show legalL (part hs[k].xs (i : Int) (j : Int)) = true by rw [← HCA.out]; exact haveF_at H3.out HKC.out)
          have hjx : j ≤ hs[k].xs.length := by rw [← HCA.out]; exact (part_deck H1.out hij hjw hkL).2
          have hra := r2.up hbw
          have rc := (hra.card_at hlt).a1 (.cells #[.slice hs[k].a hs[k].xs.length hs[k].c] 37)
          have hcap := hra.cap_at hlt
          have hlc : hs[k].xs.length ≤ 1048576 := by have := tot_at hs k hlt; omega
          obtain ⟨b1, o1, hD, _, hcell⟩ := hra.at_ hlt
          have kc := hcell k hlt
          have i1 : (k : Int) < (hs.length : Int) := by omega
          have d1 := cell_alloc (cell_later hbw q1) (.cells #[.slice hs[k].a hs[k].xs.length hs[k].c] 37)
          have d2 := cell_alloc (cell_later hbw q2) (.cells #[.slice hs[k].a hs[k].xs.length hs[k].c] 37)
          have d5 : World.cell? (wo.alloc (.cells #[.slice hs[k].a hs[k].xs.length hs[k].c] 37)) ⟨wo.heap.size, 0, none⟩ = some (.slice hs[k].a hs[k].xs.length hs[k].c) := cell_new rfl rfl
          have TB : Below w2.heap.size w2 (wo.alloc (.cells #[.slice hs[k].a hs[k].xs.length hs[k].c] 37)) := ba hbw _
          obtain ⟨lo, hlo⟩ : ∃ lo, lo = cntP (lowP s (i : Int) (j : Int)) (cards hs) k := ⟨_, rfl⟩
          obtain ⟨eq, heq⟩ : ∃ eq, eq = cntP (eqlP s (i : Int) (j : Int)) (cards hs) k := ⟨_, rfl⟩
          have HLOK := Lib.hid hlo
          have HEQK := Lib.hid heq
          rw [← hlo] at r1 ⊢
          rw [← heq] at r2' ⊢
          subst hD
          clear hz hcell hra hkL hlo heq
          rcases hz3 with hz3 | hz3 | hz3
          · have HL1 := Lib.hid (cntP_yes (p := lowP s (i : Int) (j : Int)) HKC.out (by rw [HLO.out, hz3]; rfl))
            have HE1 := Lib.hid (cntP_no (p := eqlP s (i : Int) (j : Int)) HKC.out (by rw [HEQ.out, hz3]; rfl))
            go_wp2_with fail
            refine (compareText_any _ _ hs[k].xs s i j z _ HZT.out rc hij hjx hcap hlc HLEG.out HLS.out HCS.out).mono ?_; rintro e w4 ⟨rfl, hb4⟩
            have T4 := bs TB hb4
            clear rc hb4 TB
            go_wp2
            go_roundw
            case rel =>
              have P : FiR (cards hs) (i : Int) (j : Int) s w2 w4 (.int .i64 ((lo : Int) + 1)) (.int .i64 eq) (.int .i64 ((k : Int) + 1)) := ⟨k + 1, by rw [HCL.out]; omega, by go_num, by rw [HL1.out, HLOK.out], by rw [HE1.out, HEQK.out], T4⟩
              first | exact P | exact ⟨_, P, rfl⟩ | exact ⟨_, _, P, rfl, rfl⟩ | exact ⟨_, _, _, P, rfl, rfl, rfl⟩ | exact ⟨_, _, _, _, P, rfl, rfl, rfl, rfl⟩ | exact ⟨_, _, _, _, _, P, rfl, rfl, rfl, rfl, rfl⟩ | exact ⟨_, _, _, _, _, _, P, rfl, rfl, rfl, rfl, rfl, rfl⟩ | exact ⟨_, _, _, _, _, _, _, P, rfl, rfl, rfl, rfl, rfl, rfl, rfl⟩ | exact ⟨_, _, _, _, _, _, _, _, P, rfl, rfl, rfl, rfl, rfl, rfl, rfl, rfl⟩
            case measure => simp [intOf]; omega
          · have HL1 := Lib.hid (cntP_no (p := lowP s (i : Int) (j : Int)) HKC.out (by rw [HLO.out, hz3]; rfl))
            have HE1 := Lib.hid (cntP_yes (p := eqlP s (i : Int) (j : Int)) HKC.out (by rw [HEQ.out, hz3]; rfl))
            go_wp2_with fail
            refine (compareText_any _ _ hs[k].xs s i j z _ HZT.out rc hij hjx hcap hlc HLEG.out HLS.out HCS.out).mono ?_; rintro e w4 ⟨rfl, hb4⟩
            have T4 := bs TB hb4
            clear rc hb4 TB
            go_wp2
            go_roundw
            case rel =>
              have P : FiR (cards hs) (i : Int) (j : Int) s w2 w4 (.int .i64 lo) (.int .i64 ((eq : Int) + 1)) (.int .i64 ((k : Int) + 1)) := ⟨k + 1, by rw [HCL.out]; omega, by go_num, by rw [HL1.out, HLOK.out], by rw [HE1.out, HEQK.out], T4⟩
              first | exact P | exact ⟨_, P, rfl⟩ | exact ⟨_, _, P, rfl, rfl⟩ | exact ⟨_, _, _, P, rfl, rfl, rfl⟩ | exact ⟨_, _, _, _, P, rfl, rfl, rfl, rfl⟩ | exact ⟨_, _, _, _, _, P, rfl, rfl, rfl, rfl, rfl⟩ | exact ⟨_, _, _, _, _, _, P, rfl, rfl, rfl, rfl, rfl, rfl⟩ | exact ⟨_, _, _, _, _, _, _, P, rfl, rfl, rfl, rfl, rfl, rfl, rfl⟩ | exact ⟨_, _, _, _, _, _, _, _, P, rfl, rfl, rfl, rfl, rfl, rfl, rfl, rfl⟩
            case measure => simp [intOf]; omega
          · have HL1 := Lib.hid (cntP_no (p := lowP s (i : Int) (j : Int)) HKC.out (by rw [HLO.out, hz3]; rfl))
            have HE1 := Lib.hid (cntP_no (p := eqlP s (i : Int) (j : Int)) HKC.out (by rw [HEQ.out, hz3]; rfl))
            go_wp2_with fail
            refine (compareText_any _ _ hs[k].xs s i j z _ HZT.out rc hij hjx hcap hlc HLEG.out HLS.out HCS.out).mono ?_; rintro e w4 ⟨rfl, hb4⟩
            have T4 := bs TB hb4
            clear rc hb4 TB
            go_wp2
            go_roundw
            case rel =>
              have P : FiR (cards hs) (i : Int) (j : Int) s w2 w4 (.int .i64 lo) (.int .i64 eq) (.int .i64 ((k : Int) + 1)) := ⟨k + 1, by rw [HCL.out]; omega, by go_num, by rw [HL1.out, HLOK.out], by rw [HE1.out, HEQK.out], T4⟩
              first | exact P | exact ⟨_, P, rfl⟩ | exact ⟨_, _, P, rfl, rfl⟩ | exact ⟨_, _, _, P, rfl, rfl, rfl⟩ | exact ⟨_, _, _, _, P, rfl, rfl, rfl, rfl⟩ | exact ⟨_, _, _, _, _, P, rfl, rfl, rfl, rfl, rfl⟩ | exact ⟨_, _, _, _, _, _, P, rfl, rfl, rfl, rfl, rfl, rfl⟩ | exact ⟨_, _, _, _, _, _, _, P, rfl, rfl, rfl, rfl, rfl, rfl, rfl⟩ | exact ⟨_, _, _, _, _, _, _, _, P, rfl, rfl, rfl, rfl, rfl, rfl, rfl, rfl⟩
            case measure => simp [intOf]; omega
        · obtain rfl : k = hs.length := by omega
          go_wp2
          go_ret3
          exact ⟨ret_iii (by rw [HA.out, HCL.out]) (by rw [HB.out, HCL.out]) HC.out.symm, bs T2 hbw⟩
    · have HC := Lib.hid (HC6.out hst)
      have HA := Lib.hid (@fndA_1 (cards hs) (i : Int) (j : Int) s (by rw [HC.out]; decide))
      have HB := Lib.hid (@fndB_1 (cards hs) (i : Int) (j : Int) s (by rw [HC.out]; decide))
      have HT := Lib.hid (show false = decide ((stepsL (cards hs) (i : Int) (j : Int) (cards hs).length).length = 0) by rw [decide_eq_false hst])
      clear hst HC0 HC6
      go_enter Try.func43, Try.ntmps43
      go_wp2_with fail
      rw [← HW.out]
      refine HCO.out.mono ?_; rintro e w1 ⟨rfl, hb1⟩
      have e0 : colC [cards hs] true [s] (i : Int) (j : Int) = 0 := HZ.out
      have q1 := cell_later hb1 k1
      have q2 := cell_later hb1 k2
      go_wp2_with fail
      refine (isAscending_any D c hs i j false _ (ra.up hb1) H1.out hij hjw hl HT.out).mono ?_; rintro e w2 ⟨rfl, hb2⟩
      clear e0
      go_wp2
      go_ret3
      exact ⟨ret_iii HA.out.symm HB.out.symm HC.out.symm, bs (bs T0 hb1) hb2⟩
  · have HC := Lib.hid (fndC_e hz)
    have HA := Lib.hid (@fndA_1 (cards hs) a b s (by rw [HC.out]; exact hz))
    have HB := Lib.hid (@fndB_1 (cards hs) a b s (by rw [HC.out]; exact hz))
    have e1 := bne_t hz
    clear hz
    go_enter Try.func43, Try.ntmps43
    go_wp2_with fail
    rw [← HW.out]
    refine HCO.out.mono ?_; rintro e w1 ⟨rfl, hb1⟩
    go_wp2
    go_ret3
    exact ⟨ret_iii HA.out.symm HB.out.symm HC.out.symm, bs T0 hb1⟩

end Go.Proofs.Ytdppmlchabogaaa
