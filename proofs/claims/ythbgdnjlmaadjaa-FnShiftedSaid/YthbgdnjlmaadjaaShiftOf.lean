/- ShiftOf; in the program and in the reference. -/
import Derived.Test.YthbgdnjlmaadjaaDistLaw
import Derived.Test.YthbgdnjlmaadjaaEqualInts
import Derived.Test.YthbgdnjlmaadjaaShift
import Derived.Deep.RegionHeld3
namespace Go.Proofs.Ythbgdnjlmaadjaa
open Go.RowKit

def shTry (xs ys : List Int) (k : Nat) : Option Int := if shiftL xs (k : Int) = ys then some (k : Int) else if shiftL xs (-(k : Int)) = ys then some (-(k : Int)) else none
def shFind (xs ys : List Int) : Option Int := (List.range xs.length).findSome? (shTry xs ys)
def shBy (xs ys : List Int) : Int := if pairC xs ys = 0 then (shFind xs ys).getD 0 else 0
def shC (xs ys : List Int) : Int := if pairC xs ys = 0 then (if (shFind xs ys).isSome then 0 else 3) else pairC xs ys
theorem fs_some {f : Nat → Option Int} {n k : Nat} {v : Int} (hk : k < n) (hno : ∀ j, j < k → f j = none) (h : f k = some v) : (List.range n).findSome? f = some v := by
  induction n with
  | zero => omega
  | succ n ih =>
    rw [List.range_succ, List.findSome?_append]
    by_cases e : k = n
    · subst e
      have : (List.range k).findSome? f = none := by
        rw [List.findSome?_eq_none_iff]
        intro j hj
        exact hno j (List.mem_range.1 hj)
      rw [this]
      simp [h]
    · rw [ih (by omega)]
      rfl
theorem fs_none {f : Nat → Option Int} {n : Nat} (hno : ∀ j, j < n → f j = none) : (List.range n).findSome? f = none := by
  rw [List.findSome?_eq_none_iff]
  intro j hj
  exact hno j (List.mem_range.1 hj)
theorem sh_pos {xs ys : List Int} {k : Nat} (hz : pairC xs ys = 0) (hk : k < xs.length) (hno : ∀ j, j < k → shTry xs ys j = none) (h : shiftL xs (k : Int) = ys) : shBy xs ys = (k : Int) ∧ shC xs ys = 0 := by
  have : shFind xs ys = some (k : Int) := fs_some hk hno (by unfold shTry; rw [if_pos h])
  unfold shBy shC
  rw [if_pos hz, if_pos hz, this]
  exact ⟨rfl, rfl⟩
theorem sh_neg {xs ys : List Int} {k : Nat} (hz : pairC xs ys = 0) (hk : k < xs.length) (hno : ∀ j, j < k → shTry xs ys j = none) (h0 : ¬ shiftL xs (k : Int) = ys) (h : shiftL xs (-(k : Int)) = ys) : shBy xs ys = -(k : Int) ∧ shC xs ys = 0 := by
  have : shFind xs ys = some (-(k : Int)) := fs_some hk hno (by unfold shTry; rw [if_neg h0, if_pos h])
  unfold shBy shC
  rw [if_pos hz, if_pos hz, this]
  exact ⟨rfl, rfl⟩
theorem sh_no {xs ys : List Int} (hz : pairC xs ys = 0) (hno : ∀ j, j < xs.length → shTry xs ys j = none) : shBy xs ys = 0 ∧ shC xs ys = 3 := by
  have : shFind xs ys = none := fs_none hno
  unfold shBy shC
  rw [if_pos hz, if_pos hz, this]
  exact ⟨rfl, rfl⟩
theorem sh_bad {xs ys : List Int} (hz : ¬ pairC xs ys = 0) : shBy xs ys = 0 ∧ shC xs ys = pairC xs ys := by
  unfold shBy shC
  rw [if_neg hz, if_neg hz]
  exact ⟨rfl, rfl⟩
/-- No shift by less than k gives the other card. -/
def NoSh (xs ys : List Int) (k : Nat) : Prop := ∀ j, j < k → shTry xs ys j = none
theorem NoSh.succ {xs ys : List Int} {k : Nat} (h : NoSh xs ys k) (h1 : ¬ shiftL xs (k : Int) = ys) (h2 : ¬ shiftL xs (-(k : Int)) = ys) : NoSh xs ys (k + 1) := by
  intro j hj
  rcases Nat.lt_succ_iff_lt_or_eq.1 hj with hj | rfl
  · exact h j hj
  · unfold shTry
    rw [if_neg h1, if_neg h2]
theorem shiftL_ok {xs : List Int} (h : cardOk xs = true) (sh : Int) : cardOk (shiftL xs sh) = true := by
  simp only [cardOk, Bool.and_eq_true, shiftL_length] at h ⊢
  refine ⟨h.1, List.all_eq_true.2 fun x hx => ?_⟩
  simp only [shiftL, List.mem_map] at hx
  obtain ⟨k, _, rfl⟩ := hx
  unfold shiftAt
  split
  · by_cases hk : ((k : Int) - sh).toNat < xs.length
    · have := List.all_eq_true.1 h.2 _ (List.getElem_mem hk)
      simpa [List.getD, List.getElem?_eq_getElem hk] using this
    · simp [List.getD, List.getElem?_eq_none (Nat.le_of_not_lt hk), holeB, insideB]
  · simp [holeB, insideB]

set_option maxHeartbeats 4000000 in
theorem ShiftOf_any (A : Option Addr) (c : Nat) (xs : List Int) (A' : Option Addr) (c' : Nat) (ys : List Int) (w : World) (ha : Rd w w.heap.size 1 A xs.length (ints xs)) (hl : xs.length ≤ 1048576) (_hc : xs.length ≤ c) (hb : Rd w w.heap.size 1 A' ys.length (ints ys)) (hl' : ys.length ≤ 1048576) (_hc' : ys.length ≤ c') :
    Calls Try.prog 25 #[.agg #[.slice A xs.length c], .agg #[.slice A' ys.length c']] w fun e w' => e = .returned (.tuple #[.int .i64 (shBy xs ys), .int .i64 (shC xs ys)]) ∧ Below w.heap.size w w' := by
  have T0 : Below w.heap.size w ((w.alloc (.cells #[.slice A xs.length c] 26)).alloc (.cells #[.slice A' ys.length c'] 26)) := ba (ba (b0 _) _) _
  replace ha := (ha.a1 (.cells #[.slice A xs.length c] 26)).a1 (.cells #[.slice A' ys.length c'] 26)
  replace hb := (hb.a1 (.cells #[.slice A xs.length c] 26)).a1 (.cells #[.slice A' ys.length c'] 26)
  by_cases hz : pairC xs ys = 0
  · obtain ⟨hv, hv', hee⟩ := pairC_zero hz
    have HZ := Lib.hid hz
    have hlen := cardOk_len hv
    clear hv hv' hee
    go_enter Try.func25, Try.ntmps25
    go_wp2_with fail
    refine (pairCode_any _ _ _ _ xs ys _ ha hb hl hl').mono ?_; rintro e w1 ⟨rfl, hb1⟩
    have k1 : w1.cell? ⟨w.heap.size, 0, none⟩ = some (.slice A xs.length c) := cell_later hb1 (by simp)
    have k2 : w1.cell? ⟨w.heap.size + 1, 0, none⟩ = some (.slice A' ys.length c') := cell_later hb1 (by simp)
    go_wp2_with fail
    refine (columns_any _ _ _ _ hl).mono ?_; rintro e w2 ⟨rfl, hb2⟩
    replace k1 := cell_later hb2 k1
    replace k2 := cell_later hb2 k2
    have ra := (ha.up hb1).up hb2
    have rb := (hb.up hb1).up hb2
    have T2 := bs (bs T0 hb1) hb2
    clear ha hb hb1 hb2 T0
    go_wp2
    go_loopw [7, 9, 18, 26] (fun _ _ i _ wr => ∃ k : Nat, k ≤ xs.length ∧ i = .int .i64 k ∧ NoSh xs ys k ∧ Below w2.heap.size w2 wr) (fun _ _ i _ _ => xs.length - (intOf i).toNat)
    case atStart => exact ⟨0, Nat.zero_le _, rfl, (fun j hj => absurd hj (Nat.not_lt_zero j)), b0 _⟩
    case round =>
      obtain ⟨k, hk, rfl, hno, hbw⟩ := hrel
      by_cases hlt : k < xs.length
      · have HNO := Lib.hid hno
        clear hno
        have m1 := cell_later hbw k1
        have m2 := cell_later hbw k2
        obtain ⟨wo, rfl⟩ : ∃ wo : World, wo = wr := ⟨_, rfl⟩
        go_wp2
        go_loopw [9, 26] (fun _ i wi => ∃ j : Nat, j ≤ 2 ∧ i = .int .i64 j ∧ (1 ≤ j → ¬ shiftL xs (k : Int) = ys) ∧ (2 ≤ j → ¬ shiftL xs (-(k : Int)) = ys) ∧ Below (wo.alloc (.cells #[.int .i64 (k : Int), .int .i64 (-(k : Int))] 2)).heap.size (wo.alloc (.cells #[.int .i64 (k : Int), .int .i64 (-(k : Int))] 2)) wi) (fun _ i _ => 2 - (intOf i).toNat)
        case atStart => exact ⟨0, by omega, rfl, (fun h => by omega), (fun h => by omega), b0 _⟩
        case round =>
          obtain ⟨wi, rfl⟩ : ∃ wi : World, wi = wr := ⟨_, rfl⟩
          obtain ⟨j, hj, rfl, hn1, hn2, hbi⟩ := hrel
          have HN1 := Lib.hid hn1
          have HN2 := Lib.hid hn2
          clear hn1 hn2
          have c0 : wi.cell? ⟨wo.heap.size, 0, none⟩ = some (.int .i64 (k : Int)) := cell_later hbi (cell_new rfl rfl)
          have c1 : wi.cell? ⟨wo.heap.size, 1, none⟩ = some (.int .i64 (-(k : Int))) := cell_later hbi (cell_new rfl rfl)
          have n1 := cell_later hbi (cell_alloc m1 _)
          have n2 := cell_later hbi (cell_alloc m2 _)
          have ri := ((ra.up hbw).a1 (.cells #[.int .i64 (k : Int), .int .i64 (-(k : Int))] 2)).up hbi
          have rj := ((rb.up hbw).a1 (.cells #[.int .i64 (k : Int), .int .i64 (-(k : Int))] 2)).up hbi
          have TI : Below w2.heap.size w2 wi := bs (ba hbw _) hbi
          rcases (show j = 0 ∨ j = 1 ∨ j = 2 by omega) with rfl | rfl | rfl
          · by_cases hq : shiftL xs (k : Int) = ys
            · have HS := Lib.hid (sh_pos HZ.out hlt HNO.out hq)
              have hd : decide (shiftL xs (k : Int) = ys) = true := by simpa using hq
              clear hq
              go_wp2_with fail
              go_region_held3 (fun w' => w'.cell? ⟨w.heap.size, 0, none⟩ = some (.slice A xs.length c) ∧ w'.cell? ⟨w.heap.size + 1, 0, none⟩ = some (.slice A' ys.length c')) (first | exact ⟨n1, n2⟩ | go_keep)
                (first
                  | (go_at_call 104; refine (shifted_any _ _ xs (k : Int) _ ?_ hlen.1 hlen.2 ?_ ?_).mono ?_; (exact ri); (omega); (omega); rintro e w3 ⟨B, d, rfl, ho3, hb3⟩; have hb3 : Below wi.heap.size wi w3 := ⟨hb3.os, hb3.tape, hb3.output, hb3.size, hb3.block⟩; replace n1 := cell_later hb3 n1; replace n2 := cell_later hb3 n2; replace rj := rj.up hb3)
                  | (go_at_call 103; refine (SameCard_n xs.length ys.length _ _ _ _ (shiftL xs (k : Int)) ys _ ?_ rfl ?_ ?_ ?_ hl').mono ?_; (exact shiftL_length _ _); (exact Rd.own ho3); (exact rj); (omega); rintro e w4 ⟨rfl, hb4⟩; have hb4 : Below w3.heap.size w3 w4 := ⟨hb4.os, hb4.tape, hb4.output, hb4.size, hb4.block⟩; replace n1 := cell_later hb4 n1; replace n2 := cell_later hb4 n2; have TI3 := bs (bs TI hb3) hb4)
                )
              go_wp2
              go_ret2
              exact ⟨ret_ii HS.out.1.symm HS.out.2.symm, bs T2 TI3⟩
            · have HQ := Lib.hid hq
              have hd : decide (shiftL xs (k : Int) = ys) = false := by simpa using hq
              clear hq
              go_wp2_with fail
              go_region_held3 (fun w' => w'.cell? ⟨w.heap.size, 0, none⟩ = some (.slice A xs.length c) ∧ w'.cell? ⟨w.heap.size + 1, 0, none⟩ = some (.slice A' ys.length c')) (first | exact ⟨n1, n2⟩ | go_keep)
                (first
                  | (go_at_call 104; refine (shifted_any _ _ xs (k : Int) _ ?_ hlen.1 hlen.2 ?_ ?_).mono ?_; (exact ri); (omega); (omega); rintro e w3 ⟨B, d, rfl, ho3, hb3⟩; have hb3 : Below wi.heap.size wi w3 := ⟨hb3.os, hb3.tape, hb3.output, hb3.size, hb3.block⟩; replace n1 := cell_later hb3 n1; replace n2 := cell_later hb3 n2; replace rj := rj.up hb3)
                  | (go_at_call 103; refine (SameCard_n xs.length ys.length _ _ _ _ (shiftL xs (k : Int)) ys _ ?_ rfl ?_ ?_ ?_ hl').mono ?_; (exact shiftL_length _ _); (exact Rd.own ho3); (exact rj); (omega); rintro e w4 ⟨rfl, hb4⟩; have hb4 : Below w3.heap.size w3 w4 := ⟨hb4.os, hb4.tape, hb4.output, hb4.size, hb4.block⟩; replace n1 := cell_later hb4 n1; replace n2 := cell_later hb4 n2; have TI3 := bs (bs TI hb3) hb4)
                )
              go_wp2
              go_roundw
              case rel => exact ⟨1, by omega, by go_num, fun _ => HQ.out, fun h => absurd h (by omega), bs hbi (bs hb3 hb4)⟩
              case measure => simp [intOf]
          · by_cases hq : shiftL xs (-(k : Int)) = ys
            · have HS := Lib.hid (sh_neg HZ.out hlt HNO.out (HN1.out (by omega)) hq)
              have hd : decide (shiftL xs (-(k : Int)) = ys) = true := by simpa using hq
              clear hq
              go_wp2_with fail
              go_region_held3 (fun w' => w'.cell? ⟨w.heap.size, 0, none⟩ = some (.slice A xs.length c) ∧ w'.cell? ⟨w.heap.size + 1, 0, none⟩ = some (.slice A' ys.length c')) (first | exact ⟨n1, n2⟩ | go_keep)
                (first
                  | (go_at_call 104; refine (shifted_any _ _ xs (-(k : Int)) _ ?_ hlen.1 hlen.2 ?_ ?_).mono ?_; (exact ri); (omega); (omega); rintro e w3 ⟨B, d, rfl, ho3, hb3⟩; have hb3 : Below wi.heap.size wi w3 := ⟨hb3.os, hb3.tape, hb3.output, hb3.size, hb3.block⟩; replace n1 := cell_later hb3 n1; replace n2 := cell_later hb3 n2; replace rj := rj.up hb3)
                  | (go_at_call 103; refine (SameCard_n xs.length ys.length _ _ _ _ (shiftL xs (-(k : Int))) ys _ ?_ rfl ?_ ?_ ?_ hl').mono ?_; (exact shiftL_length _ _); (exact Rd.own ho3); (exact rj); (omega); rintro e w4 ⟨rfl, hb4⟩; have hb4 : Below w3.heap.size w3 w4 := ⟨hb4.os, hb4.tape, hb4.output, hb4.size, hb4.block⟩; replace n1 := cell_later hb4 n1; replace n2 := cell_later hb4 n2; have TI3 := bs (bs TI hb3) hb4)
                )
              go_wp2
              go_ret2
              exact ⟨ret_ii HS.out.1.symm HS.out.2.symm, bs T2 TI3⟩
            · have HQ := Lib.hid hq
              have hd : decide (shiftL xs (-(k : Int)) = ys) = false := by simpa using hq
              clear hq
              go_wp2_with fail
              go_region_held3 (fun w' => w'.cell? ⟨w.heap.size, 0, none⟩ = some (.slice A xs.length c) ∧ w'.cell? ⟨w.heap.size + 1, 0, none⟩ = some (.slice A' ys.length c')) (first | exact ⟨n1, n2⟩ | go_keep)
                (first
                  | (go_at_call 104; refine (shifted_any _ _ xs (-(k : Int)) _ ?_ hlen.1 hlen.2 ?_ ?_).mono ?_; (exact ri); (omega); (omega); rintro e w3 ⟨B, d, rfl, ho3, hb3⟩; have hb3 : Below wi.heap.size wi w3 := ⟨hb3.os, hb3.tape, hb3.output, hb3.size, hb3.block⟩; replace n1 := cell_later hb3 n1; replace n2 := cell_later hb3 n2; replace rj := rj.up hb3)
                  | (go_at_call 103; refine (SameCard_n xs.length ys.length _ _ _ _ (shiftL xs (-(k : Int))) ys _ ?_ rfl ?_ ?_ ?_ hl').mono ?_; (exact shiftL_length _ _); (exact Rd.own ho3); (exact rj); (omega); rintro e w4 ⟨rfl, hb4⟩; have hb4 : Below w3.heap.size w3 w4 := ⟨hb4.os, hb4.tape, hb4.output, hb4.size, hb4.block⟩; replace n1 := cell_later hb4 n1; replace n2 := cell_later hb4 n2; have TI3 := bs (bs TI hb3) hb4)
                )
              go_wp2
              go_roundw
              case rel => exact ⟨2, by omega, by go_num, fun _ => HN1.out (by omega), fun _ => HQ.out, bs hbi (bs hb3 hb4)⟩
              case measure => simp [intOf]
          · have HS := Lib.hid (HNO.out.succ (HN1.out (by omega)) (HN2.out (by omega)))
            go_wp2
            go_roundw
            case rel => exact ⟨k + 1, by omega, by go_num, HS.out, TI⟩
            case measure => simp [intOf]; omega
      · obtain rfl : k = xs.length := by omega
        have HS := Lib.hid (sh_no HZ.out hno)
        go_wp2
        go_ret2
        exact ⟨ret_ii HS.out.1.symm HS.out.2.symm, bs T2 hbw⟩
  · have HS := Lib.hid (sh_bad hz)
    go_enter Try.func25, Try.ntmps25
    go_wp2_with fail
    refine (pairCode_any _ _ _ _ xs ys _ ha hb hl hl').mono ?_; rintro e w1 ⟨rfl, hb1⟩
    go_wp2
    go_ret2
    exact ⟨ret_ii HS.out.1.symm HS.out.2.symm, bs T0 hb1⟩

set_option maxHeartbeats 4000000 in
theorem spShiftOf_any (A : Option Addr) (c : Nat) (xs : List Int) (A' : Option Addr) (c' : Nat) (ys : List Int) (w : World) (ha : Rd w w.heap.size 1 A xs.length (ints xs)) (hl : xs.length ≤ 1048576) (_hc : xs.length ≤ c) (hb : Rd w w.heap.size 1 A' ys.length (ints ys)) (hl' : ys.length ≤ 1048576) (_hc' : ys.length ≤ c') :
    Calls Try.prog 26 #[.agg #[.slice A xs.length c], .agg #[.slice A' ys.length c']] w fun e w' => e = .returned (.tuple #[.int .i64 (shBy xs ys), .int .i64 (shC xs ys)]) ∧ Below w.heap.size w w' := by
  have T0 : Below w.heap.size w ((w.alloc (.cells #[.slice A xs.length c] 26)).alloc (.cells #[.slice A' ys.length c'] 26)) := ba (ba (b0 _) _) _
  replace ha := (ha.a1 (.cells #[.slice A xs.length c] 26)).a1 (.cells #[.slice A' ys.length c'] 26)
  replace hb := (hb.a1 (.cells #[.slice A xs.length c] 26)).a1 (.cells #[.slice A' ys.length c'] 26)
  by_cases hz : pairC xs ys = 0
  · obtain ⟨hv, hv', hee⟩ := pairC_zero hz
    have HZ := Lib.hid hz
    have HV := Lib.hid hv
    have HV' := Lib.hid hv'
    have HE := Lib.hid hee.symm
    have hlen := cardOk_len hv
    clear hv hv' hee
    go_enter Try.func26, Try.ntmps26
    go_wp2_with fail
    refine (l06Two_any w.heap.size 0 (w.heap.size + 1) 0 _ _ _ _ xs ys _ (cell_alloc (cell_new rfl rfl) _) (cell_new (by simp) rfl) ha hb hl hl').mono ?_; rintro e w1 ⟨rfl, hb1⟩
    have k1 : w1.cell? ⟨w.heap.size, 0, none⟩ = some (.slice A xs.length c) := cell_later hb1 (by simp)
    have k2 : w1.cell? ⟨w.heap.size + 1, 0, none⟩ = some (.slice A' ys.length c') := cell_later hb1 (by simp)
    have ra := ha.up hb1
    have rb := hb.up hb1
    have T1 := bs T0 hb1
    clear ha hb hb1 T0
    go_wp2
    go_loopw [8, 9, 10] (fun i _ _ wr => ∃ k : Nat, k ≤ xs.length ∧ i = .int .i64 k ∧ NoSh xs ys k ∧ Below w1.heap.size w1 wr) (fun i _ _ _ => xs.length - (intOf i).toNat)
    case atStart => exact ⟨0, Nat.zero_le _, rfl, (fun j hj => absurd hj (Nat.not_lt_zero j)), b0 _⟩
    case round =>
      obtain ⟨wo, rfl⟩ : ∃ wo : World, wo = wr := ⟨_, rfl⟩
      obtain ⟨k, hk, rfl, hno, hbw⟩ := hrel
      by_cases hlt : k < xs.length
      · have HNO := Lib.hid hno
        clear hno
        have m1 := cell_later hbw k1
        have m2 := cell_later hbw k2
        have ri := ra.up hbw
        have rj := rb.up hbw
        by_cases hq : shiftL xs (k : Int) = ys
        · have HS := Lib.hid (sh_pos HZ.out hlt HNO.out hq)
          have hd : (distV (shiftL xs (k : Int)) ys == 0) = true := by
            simpa using (distV_zero (shiftL_ok HV.out _) HV'.out (by rw [shiftL_length]; exact HE.out)).2 hq
          clear hq
          go_wp2_with fail
          refine (l06Shift_any _ _ _ _ xs (k : Int) _ m1 ri hlen.1 hlen.2 (by omega) (by omega)).mono ?_; rintro e w3 ⟨B, d, rfl, ho3, hb3⟩
          have hbx : Below wo.heap.size wo (w3.alloc (.cells #[.slice B xs.length d] 26)) := ba hb3 _
          replace m1 := cell_later hbx m1
          replace m2 := cell_later hbx m2
          replace ri := ri.up hbx
          replace rj := rj.up hbx
          have rs := (Rd.own ho3).a1 (.cells #[.slice B xs.length d] 26)
          have kx : World.cell? (w3.alloc (.cells #[.slice B xs.length d] 26)) ⟨w3.heap.size, 0, none⟩ = some (.slice B xs.length d) := cell_new rfl rfl
          go_wp2_with fail
          refine (l06Far_n xs.length _ _ _ _ _ _ _ _ (shiftL xs (k : Int)) ys _ (shiftL_length _ _) kx m2 rs rj (shiftL_ok HV.out _) HV'.out HE.out).mono ?_; rintro e w4 ⟨rfl, hb4⟩
          go_wp2
          go_ret2
          exact ⟨ret_ii HS.out.1.symm HS.out.2.symm, bs T1 (bs (bs hbw hbx) hb4)⟩
        · have HQ := Lib.hid hq
          have hd : (distV (shiftL xs (k : Int)) ys == 0) = false := by
            simpa using fun h => hq ((distV_zero (shiftL_ok HV.out _) HV'.out (by rw [shiftL_length]; exact HE.out)).1 h)
          clear hq
          by_cases hq : shiftL xs (-(k : Int)) = ys
          · have HS := Lib.hid (sh_neg HZ.out hlt HNO.out HQ.out hq)
            have hd2 : (distV (shiftL xs (-(k : Int))) ys == 0) = true := by
              simpa using (distV_zero (shiftL_ok HV.out _) HV'.out (by rw [shiftL_length]; exact HE.out)).2 hq
            clear hq
            go_wp2_with fail
            refine (l06Shift_any _ _ _ _ xs (k : Int) _ m1 ri hlen.1 hlen.2 (by omega) (by omega)).mono ?_; rintro e w3 ⟨B, d, rfl, ho3, hb3⟩
            have hbx : Below wo.heap.size wo (w3.alloc (.cells #[.slice B xs.length d] 26)) := ba hb3 _
            replace m1 := cell_later hbx m1
            replace m2 := cell_later hbx m2
            replace ri := ri.up hbx
            replace rj := rj.up hbx
            have rs := (Rd.own ho3).a1 (.cells #[.slice B xs.length d] 26)
            have kx : World.cell? (w3.alloc (.cells #[.slice B xs.length d] 26)) ⟨w3.heap.size, 0, none⟩ = some (.slice B xs.length d) := cell_new rfl rfl
            go_wp2_with fail
            refine (l06Far_n xs.length _ _ _ _ _ _ _ _ (shiftL xs (k : Int)) ys _ (shiftL_length _ _) kx m2 rs rj (shiftL_ok HV.out _) HV'.out HE.out).mono ?_; rintro e w4 ⟨rfl, hb4⟩
            replace m1 := cell_later hb4 m1
            replace m2 := cell_later hb4 m2
            replace ri := ri.up hb4
            replace rj := rj.up hb4
            go_wp2_with fail
            refine (l06Shift_any _ _ _ _ xs (-(k : Int)) _ m1 ri hlen.1 hlen.2 (by omega) (by omega)).mono ?_; rintro e w5 ⟨B5, d5, rfl, ho5, hb5⟩
            have hby : Below w4.heap.size w4 (w5.alloc (.cells #[.slice B5 xs.length d5] 26)) := ba hb5 _
            replace m2 := cell_later hby m2
            replace rj := rj.up hby
            have rs5 := (Rd.own ho5).a1 (.cells #[.slice B5 xs.length d5] 26)
            have kx5 : World.cell? (w5.alloc (.cells #[.slice B5 xs.length d5] 26)) ⟨w5.heap.size, 0, none⟩ = some (.slice B5 xs.length d5) := cell_new rfl rfl
            go_wp2_with fail
            refine (l06Far_n xs.length _ _ _ _ _ _ _ _ (shiftL xs (-(k : Int))) ys _ (shiftL_length _ _) kx5 m2 rs5 rj (shiftL_ok HV.out _) HV'.out HE.out).mono ?_; rintro e w6 ⟨rfl, hb6⟩
            go_wp2
            go_ret2
            exact ⟨ret_ii HS.out.1.symm HS.out.2.symm, bs T1 (bs (bs (bs (bs hbw hbx) hb4) hby) hb6)⟩
          · have HS := Lib.hid (HNO.out.succ HQ.out hq)
            have hd2 : (distV (shiftL xs (-(k : Int))) ys == 0) = false := by
              simpa using fun h => hq ((distV_zero (shiftL_ok HV.out _) HV'.out (by rw [shiftL_length]; exact HE.out)).1 h)
            clear hq
            go_wp2_with fail
            refine (l06Shift_any _ _ _ _ xs (k : Int) _ m1 ri hlen.1 hlen.2 (by omega) (by omega)).mono ?_; rintro e w3 ⟨B, d, rfl, ho3, hb3⟩
            have hbx : Below wo.heap.size wo (w3.alloc (.cells #[.slice B xs.length d] 26)) := ba hb3 _
            replace m1 := cell_later hbx m1
            replace m2 := cell_later hbx m2
            replace ri := ri.up hbx
            replace rj := rj.up hbx
            have rs := (Rd.own ho3).a1 (.cells #[.slice B xs.length d] 26)
            have kx : World.cell? (w3.alloc (.cells #[.slice B xs.length d] 26)) ⟨w3.heap.size, 0, none⟩ = some (.slice B xs.length d) := cell_new rfl rfl
            go_wp2_with fail
            refine (l06Far_n xs.length _ _ _ _ _ _ _ _ (shiftL xs (k : Int)) ys _ (shiftL_length _ _) kx m2 rs rj (shiftL_ok HV.out _) HV'.out HE.out).mono ?_; rintro e w4 ⟨rfl, hb4⟩
            replace m1 := cell_later hb4 m1
            replace m2 := cell_later hb4 m2
            replace ri := ri.up hb4
            replace rj := rj.up hb4
            go_wp2_with fail
            refine (l06Shift_any _ _ _ _ xs (-(k : Int)) _ m1 ri hlen.1 hlen.2 (by omega) (by omega)).mono ?_; rintro e w5 ⟨B5, d5, rfl, ho5, hb5⟩
            have hby : Below w4.heap.size w4 (w5.alloc (.cells #[.slice B5 xs.length d5] 26)) := ba hb5 _
            replace m2 := cell_later hby m2
            replace rj := rj.up hby
            have rs5 := (Rd.own ho5).a1 (.cells #[.slice B5 xs.length d5] 26)
            have kx5 : World.cell? (w5.alloc (.cells #[.slice B5 xs.length d5] 26)) ⟨w5.heap.size, 0, none⟩ = some (.slice B5 xs.length d5) := cell_new rfl rfl
            go_wp2_with fail
            refine (l06Far_n xs.length _ _ _ _ _ _ _ _ (shiftL xs (-(k : Int))) ys _ (shiftL_length _ _) kx5 m2 rs5 rj (shiftL_ok HV.out _) HV'.out HE.out).mono ?_; rintro e w6 ⟨rfl, hb6⟩
            go_wp2
            go_roundw
            case rel => exact ⟨k + 1, by omega, by go_num, HS.out, bs (bs (bs (bs hbw hbx) hb4) hby) hb6⟩
            case measure => simp [intOf]; omega
      · obtain rfl : k = xs.length := by omega
        have HS := Lib.hid (sh_no HZ.out hno)
        go_wp2
        go_ret2
        exact ⟨ret_ii HS.out.1.symm HS.out.2.symm, bs T1 hbw⟩
  · have HS := Lib.hid (sh_bad hz)
    go_enter Try.func26, Try.ntmps26
    go_wp2_with fail
    refine (l06Two_any w.heap.size 0 (w.heap.size + 1) 0 _ _ _ _ xs ys _ (cell_alloc (cell_new rfl rfl) _) (cell_new (by simp) rfl) ha hb hl hl').mono ?_; rintro e w1 ⟨rfl, hb1⟩
    go_wp2
    go_ret2
    exact ⟨ret_ii HS.out.1.symm HS.out.2.symm, bs T0 hb1⟩
end Go.Proofs.Ythbgdnjlmaadjaa
