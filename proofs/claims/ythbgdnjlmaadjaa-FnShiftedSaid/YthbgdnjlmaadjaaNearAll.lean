/- Two cards at a time: their code, in the program and in the reference. The distance of two cards; in the program and in the reference. The first least element; slices.Min, slices.Index at int64. NearestCard; in the program and in the reference. -/
import Derived.Test.YthbgdnjlmaadjaaCardFns
import Derived.Deep.RegionHeld3
import Derived.Test.YthbgdnjlmaadjaaCodeAll
import Derived.Test.YthbgdnjlmaadjaaLater
import Derived.Test.YthbgdnjlmaadjaaDecks
/-! ### Two cards at a time: their code, in the program and in the reference. -/
namespace Go.Proofs.Ythbgdnjlmaadjaa
open Go.RowKit

def pairC (xs ys : List Int) : Int := if cardOk xs = true ∧ cardOk ys = true then (if xs.length = ys.length then 0 else 2) else 1
theorem pairC_no1 {xs ys : List Int} (h : cardOk xs = false) : pairC xs ys = 1 := by unfold pairC; rw [if_neg (by simp [h])]
theorem pairC_no2 {xs ys : List Int} (h : cardOk ys = false) : pairC xs ys = 1 := by unfold pairC; rw [if_neg (by simp [h])]
theorem pairC_two {xs ys : List Int} (h1 : cardOk xs = true) (h2 : cardOk ys = true) (h : ¬ xs.length = ys.length) : pairC xs ys = 2 := by unfold pairC; rw [if_pos ⟨h1, h2⟩, if_neg h]
theorem pairC_ok {xs ys : List Int} (h1 : cardOk xs = true) (h2 : cardOk ys = true) (h : xs.length = ys.length) : pairC xs ys = 0 := by unfold pairC; rw [if_pos ⟨h1, h2⟩, if_pos h]
theorem pairC_zero {xs ys : List Int} (h : pairC xs ys = 0) : cardOk xs = true ∧ cardOk ys = true ∧ xs.length = ys.length := by
  unfold pairC at h
  split at h
  · rename_i h1
    split at h
    · rename_i h2
      exact ⟨h1.1, h1.2, h2⟩
    · simp at h
  · simp at h
theorem pairC_cases (xs ys : List Int) : pairC xs ys = 0 ∨ pairC xs ys = 1 ∨ pairC xs ys = 2 := by
  unfold pairC
  split
  · split
    · exact .inl rfl
    · exact .inr (.inr rfl)
  · exact .inr (.inl rfl)
theorem pairC_swap (xs ys : List Int) : pairC xs ys = pairC ys xs := by
  unfold pairC
  by_cases h : cardOk xs = true ∧ cardOk ys = true
  · rw [if_pos h, if_pos h.symm]
    by_cases h2 : xs.length = ys.length
    · rw [if_pos h2, if_pos h2.symm]
    · rw [if_neg h2, if_neg (fun e => h2 e.symm)]
  · rw [if_neg h, if_neg (fun e => h e.symm)]

set_option maxRecDepth 100000 in
set_option maxHeartbeats 1000000 in
theorem pairCode_any (A A' : Option Addr) (c c' : Nat) (xs ys : List Int) (w : World) (ha : Rd w w.heap.size 1 A xs.length (ints xs)) (hb : Rd w w.heap.size 1 A' ys.length (ints ys)) (hl : xs.length ≤ 1048576) (hl' : ys.length ≤ 1048576) :
    Calls Try.prog 77 #[.agg #[.slice A xs.length c], .agg #[.slice A' ys.length c']] w fun e w' => e = .returned (.int .i64 (pairC xs ys)) ∧ Below w.heap.size w w' := by
  rcases Bool.eq_false_or_eq_true (cardOk xs) with h1 | h1
  · rcases Bool.eq_false_or_eq_true (cardOk ys) with h2 | h2
    · by_cases h3 : xs.length = ys.length
      · have HP := Lib.hid (pairC_ok h1 h2 h3)
        have H3 := Lib.hid (show (xs.length : Int) = (ys.length : Int) by omega)
        clear h3
        go_enter Try.func77, Try.ntmps77
        go_wp2_with fail
        refine (ValidCard_any _ _ _ _ ((ha.a1 _).a1 _) hl).mono ?_; rintro e w1 ⟨rfl, hb1⟩
        have k1 : w1.cell? ⟨w.heap.size, 0, none⟩ = some (.slice A xs.length c) := cell_later hb1 (by simp)
        have k2 : w1.cell? ⟨w.heap.size + 1, 0, none⟩ = some (.slice A' ys.length c') := cell_later hb1 (by simp)
        have T1 : Below w.heap.size w w1 := bs (ba (ba (b0 _) _) _) hb1
        go_wp2_with fail
        refine (ValidCard_any _ _ _ _ (((hb.a1 _).a1 _).up hb1) hl').mono ?_; rintro e w2 ⟨rfl, hb2⟩
        replace k1 := cell_later hb2 k1
        replace k2 := cell_later hb2 k2
        have T2 : Below w.heap.size w w2 := bs T1 hb2
        have hp := Lib.hid (HP.out)
        go_wp2_with fail
        go_region_held3 (fun w' => w'.cell? ⟨w.heap.size, 0, none⟩ = some (.slice A xs.length c) ∧ w'.cell? ⟨w.heap.size + 1, 0, none⟩ = some (.slice A' ys.length c')) (first | exact ⟨k1, k2⟩ | go_keep)
          (first
            | (go_at_call 82; refine (columns_any A xs.length c _ ?_).mono ?_; (exact hl); rintro e w3 ⟨rfl, hb3⟩; have hb3 : Below w2.heap.size w2 w3 := ⟨hb3.os, hb3.tape, hb3.output, hb3.size, hb3.block⟩; have T3 := bs T2 hb3; replace k1 := cell_later hb3 k1; replace k2 := cell_later hb3 k2)
            | (go_at_call 82; refine (columns_any A' ys.length c' _ ?_).mono ?_; (exact hl'); rintro e w4 ⟨rfl, hb4⟩; have hb4 : Below w3.heap.size w3 w4 := ⟨hb4.os, hb4.tape, hb4.output, hb4.size, hb4.block⟩; have T4 := bs T3 hb4; replace k1 := cell_later hb4 k1; replace k2 := cell_later hb4 k2)
          )
        have h3i := H3.out
        go_wp2
        go_ret
        exact ⟨ret_int hp.out.symm, T4⟩
      · have HP := Lib.hid (pairC_two h1 h2 h3)
        have H3 := Lib.hid (show ¬ (xs.length : Int) = (ys.length : Int) by omega)
        clear h3
        go_enter Try.func77, Try.ntmps77
        go_wp2_with fail
        refine (ValidCard_any _ _ _ _ ((ha.a1 _).a1 _) hl).mono ?_; rintro e w1 ⟨rfl, hb1⟩
        have k1 : w1.cell? ⟨w.heap.size, 0, none⟩ = some (.slice A xs.length c) := cell_later hb1 (by simp)
        have k2 : w1.cell? ⟨w.heap.size + 1, 0, none⟩ = some (.slice A' ys.length c') := cell_later hb1 (by simp)
        have T1 : Below w.heap.size w w1 := bs (ba (ba (b0 _) _) _) hb1
        go_wp2_with fail
        refine (ValidCard_any _ _ _ _ (((hb.a1 _).a1 _).up hb1) hl').mono ?_; rintro e w2 ⟨rfl, hb2⟩
        replace k1 := cell_later hb2 k1
        replace k2 := cell_later hb2 k2
        have T2 : Below w.heap.size w w2 := bs T1 hb2
        have hp := Lib.hid (HP.out)
        go_wp2_with fail
        go_region_held3 (fun w' => w'.cell? ⟨w.heap.size, 0, none⟩ = some (.slice A xs.length c) ∧ w'.cell? ⟨w.heap.size + 1, 0, none⟩ = some (.slice A' ys.length c')) (first | exact ⟨k1, k2⟩ | go_keep)
          (first
            | (go_at_call 82; refine (columns_any A xs.length c _ ?_).mono ?_; (exact hl); rintro e w3 ⟨rfl, hb3⟩; have hb3 : Below w2.heap.size w2 w3 := ⟨hb3.os, hb3.tape, hb3.output, hb3.size, hb3.block⟩; have T3 := bs T2 hb3; replace k1 := cell_later hb3 k1; replace k2 := cell_later hb3 k2)
            | (go_at_call 82; refine (columns_any A' ys.length c' _ ?_).mono ?_; (exact hl'); rintro e w4 ⟨rfl, hb4⟩; have hb4 : Below w3.heap.size w3 w4 := ⟨hb4.os, hb4.tape, hb4.output, hb4.size, hb4.block⟩; have T4 := bs T3 hb4; replace k1 := cell_later hb4 k1; replace k2 := cell_later hb4 k2)
          )
        have h3i := H3.out
        go_wp2
        go_ret
        exact ⟨ret_int hp.out.symm, T4⟩
    · have hp := Lib.hid (pairC_no2 (xs := xs) h2)
      go_enter Try.func77, Try.ntmps77
      go_wp2_with fail
      refine (ValidCard_any _ _ _ _ ((ha.a1 _).a1 _) hl).mono ?_; rintro e w1 ⟨rfl, hb1⟩
      have k1 : w1.cell? ⟨w.heap.size, 0, none⟩ = some (.slice A xs.length c) := cell_later hb1 (by simp)
      have k2 : w1.cell? ⟨w.heap.size + 1, 0, none⟩ = some (.slice A' ys.length c') := cell_later hb1 (by simp)
      have T1 : Below w.heap.size w w1 := bs (ba (ba (b0 _) _) _) hb1
      go_wp2_with fail
      refine (ValidCard_any _ _ _ _ (((hb.a1 _).a1 _).up hb1) hl').mono ?_; rintro e w2 ⟨rfl, hb2⟩
      replace k1 := cell_later hb2 k1
      replace k2 := cell_later hb2 k2
      have T2 : Below w.heap.size w w2 := bs T1 hb2
      go_wp2
      go_ret
      exact ⟨ret_int hp.out.symm, T2⟩
  · have hp := Lib.hid (pairC_no1 (ys := ys) h1)
    go_enter Try.func77, Try.ntmps77
    go_wp2_with fail
    refine (ValidCard_any _ _ _ _ ((ha.a1 _).a1 _) hl).mono ?_; rintro e w1 ⟨rfl, hb1⟩
    have k1 : w1.cell? ⟨w.heap.size, 0, none⟩ = some (.slice A xs.length c) := cell_later hb1 (by simp)
    have k2 : w1.cell? ⟨w.heap.size + 1, 0, none⟩ = some (.slice A' ys.length c') := cell_later hb1 (by simp)
    have T1 : Below w.heap.size w w1 := bs (ba (ba (b0 _) _) _) hb1
    go_wp2
    go_ret
    exact ⟨ret_int hp.out.symm, T1⟩

set_option maxRecDepth 100000 in
set_option maxHeartbeats 1000000 in
theorem l06Two_any (p q p' q' : Nat) (A A' : Option Addr) (c c' : Nat) (xs ys : List Int) (w : World) (hp : w.cell? ⟨p, q, none⟩ = some (.slice A xs.length c)) (hp' : w.cell? ⟨p', q', none⟩ = some (.slice A' ys.length c')) (ha : Rd w w.heap.size 1 A xs.length (ints xs)) (hb : Rd w w.heap.size 1 A' ys.length (ints ys)) (hl : xs.length ≤ 1048576) (hl' : ys.length ≤ 1048576) :
    Calls Try.prog 79 #[.pointer (some ⟨p, q, none⟩), .pointer (some ⟨p', q', none⟩)] w fun e w' => e = .returned (.int .i64 (pairC xs ys)) ∧ Below w.heap.size w w' := by
  rcases Bool.eq_false_or_eq_true (cardOk xs) with h1 | h1
  · rcases Bool.eq_false_or_eq_true (cardOk ys) with h2 | h2
    · by_cases h3 : xs.length = ys.length
      · have HP := Lib.hid (pairC_ok h1 h2 h3)
        have H3 := Lib.hid (show (xs.length : Int) = (ys.length : Int) by omega)
        clear h3
        go_enter Try.func79, Try.ntmps79
        go_wp2_with fail
        refine (l02Ok_any _ _ A c xs _ hp ha hl).mono ?_; rintro e w1 ⟨rfl, hb1⟩
        replace hp := cell_later hb1 hp
        replace hp' := cell_later hb1 hp'
        go_wp2_with fail
        refine (l02Ok_any _ _ A' c' ys _ hp' (hb.up hb1) hl').mono ?_; rintro e w2 ⟨rfl, hb2⟩
        replace hp := cell_later hb2 hp
        replace hp' := cell_later hb2 hp'
        have T2 : Below w.heap.size w w2 := bs hb1 hb2
        have hc := Lib.hid (HP.out)
        clear ha hb
        go_wp2_with fail
        have h3i := H3.out
        go_quiet (fail)
        go_wp2
        go_ret
        exact ⟨ret_int hc.out.symm, below_drewN T2 _⟩
      · have HP := Lib.hid (pairC_two h1 h2 h3)
        have H3 := Lib.hid (show ¬ (xs.length : Int) = (ys.length : Int) by omega)
        clear h3
        go_enter Try.func79, Try.ntmps79
        go_wp2_with fail
        refine (l02Ok_any _ _ A c xs _ hp ha hl).mono ?_; rintro e w1 ⟨rfl, hb1⟩
        replace hp := cell_later hb1 hp
        replace hp' := cell_later hb1 hp'
        go_wp2_with fail
        refine (l02Ok_any _ _ A' c' ys _ hp' (hb.up hb1) hl').mono ?_; rintro e w2 ⟨rfl, hb2⟩
        replace hp := cell_later hb2 hp
        replace hp' := cell_later hb2 hp'
        have T2 : Below w.heap.size w w2 := bs hb1 hb2
        have hc := Lib.hid (HP.out)
        clear ha hb
        go_wp2_with fail
        have h3i := H3.out
        go_quiet (fail)
        go_wp2
        go_ret
        exact ⟨ret_int hc.out.symm, below_drewN T2 _⟩
    · have hc := Lib.hid (pairC_no2 (xs := xs) h2)
      go_enter Try.func79, Try.ntmps79
      go_wp2_with fail
      refine (l02Ok_any _ _ A c xs _ hp ha hl).mono ?_; rintro e w1 ⟨rfl, hb1⟩
      replace hp := cell_later hb1 hp
      replace hp' := cell_later hb1 hp'
      go_wp2_with fail
      refine (l02Ok_any _ _ A' c' ys _ hp' (hb.up hb1) hl').mono ?_; rintro e w2 ⟨rfl, hb2⟩
      replace hp := cell_later hb2 hp
      replace hp' := cell_later hb2 hp'
      have T2 : Below w.heap.size w w2 := bs hb1 hb2
      go_wp2
      go_ret
      exact ⟨ret_int hc.out.symm, T2⟩
  · have hc := Lib.hid (pairC_no1 (ys := ys) h1)
    go_enter Try.func79, Try.ntmps79
    go_wp2_with fail
    refine (l02Ok_any _ _ A c xs _ hp ha hl).mono ?_; rintro e w1 ⟨rfl, hb1⟩
    replace hp := cell_later hb1 hp
    replace hp' := cell_later hb1 hp'
    go_wp2
    go_ret
    exact ⟨ret_int hc.out.symm, hb1⟩
end Go.Proofs.Ythbgdnjlmaadjaa

/-! ### The distance of two cards; in the program and in the reference. -/
namespace Go.Proofs.Ythbgdnjlmaadjaa
open Go.RowKit

/-- In how many places the first k columns differ. -/
def distTo (xs ys : List Int) : Nat → Int
  | 0 => 0
  | k + 1 => distTo xs ys k + diffI (xs.getD k 0) (ys.getD k 0)
def distV (xs ys : List Int) : Int := distTo xs ys xs.length
theorem getD_hole {xs : List Int} (h : cardOk xs = true) (k : Nat) : 0 ≤ xs.getD k 0 ∧ xs.getD k 0 ≤ 4095 := by
  by_cases hk : k < xs.length
  · have := cardOk_hole h hk
    simpa [List.getD, List.getElem?_eq_getElem hk] using this
  · simp [List.getD, List.getElem?_eq_none (Nat.le_of_not_lt hk)]
theorem getD_at {xs : List Int} {k : Nat} (hk : k < xs.length) : xs.getD k 0 = xs[k] := by simp [List.getD, List.getElem?_eq_getElem hk]
theorem distTo_range {xs ys : List Int} (h : cardOk xs = true) (h' : cardOk ys = true) (k : Nat) : 0 ≤ distTo xs ys k ∧ distTo xs ys k ≤ 12 * k := by
  induction k with
  | zero => simp [distTo]
  | succ k ih =>
    have h1 := getD_hole h k
    have h2 := getD_hole h' k
    have := diffI_range h1.1 h1.2 h2.1 h2.2
    simp only [distTo]
    omega
theorem distTo_comm {xs ys : List Int} (h : cardOk xs = true) (h' : cardOk ys = true) (k : Nat) : distTo xs ys k = distTo ys xs k := by
  induction k with
  | zero => rfl
  | succ k ih =>
    have h1 := getD_hole h k
    have h2 := getD_hole h' k
    simp only [distTo, ih, diffI_comm h1.1 h1.2 h2.1 h2.2]
theorem distV_range {xs ys : List Int} (h : cardOk xs = true) (h' : cardOk ys = true) : 0 ≤ distV xs ys ∧ distV xs ys ≤ 240 := by
  have := distTo_range h h' xs.length
  have := cardOk_len h
  unfold distV
  omega
theorem distTo_zero {xs ys : List Int} (h : cardOk xs = true) (h' : cardOk ys = true) (k : Nat) : distTo xs ys k = 0 ↔ ∀ j, j < k → xs.getD j 0 = ys.getD j 0 := by
  induction k with
  | zero => simp [distTo]
  | succ k ih =>
    have h1 := getD_hole h k
    have h2 := getD_hole h' k
    have h3 := diffI_range h1.1 h1.2 h2.1 h2.2
    have h4 := distTo_range h h' k
    have h5 := diffI_zero h1.1 h1.2 h2.1 h2.2
    simp only [distTo]
    constructor
    · intro h6 j hj
      rcases Nat.lt_succ_iff_lt_or_eq.1 hj with hj | rfl
      · exact ih.1 (by omega) j hj
      · exact h5.1 (by omega)
    · intro h6
      have h7 := ih.2 fun j hj => h6 j (by omega)
      have h8 := h5.2 (h6 k (by omega))
      omega
theorem distV_zero {xs ys : List Int} (h : cardOk xs = true) (h' : cardOk ys = true) (hl : ys.length = xs.length) : distV xs ys = 0 ↔ xs = ys := by
  unfold distV
  rw [distTo_zero h h']
  constructor
  · intro h1
    apply List.ext_getElem hl.symm
    intro k hk hk'
    have := h1 k hk
    rwa [getD_at hk, getD_at hk'] at this
  · rintro rfl j _
    rfl

set_option maxHeartbeats 1000000 in
theorem distanceOf_any (A A' : Option Addr) (c c' : Nat) (xs ys : List Int) (w : World) (ha : Rd w w.heap.size 1 A xs.length (ints xs)) (hb : Rd w w.heap.size 1 A' ys.length (ints ys)) (hx : cardOk xs = true) (hy : cardOk ys = true) (he : ys.length = xs.length) :
    Calls Try.prog 78 #[.agg #[.slice A xs.length c], .agg #[.slice A' ys.length c']] w fun e w' => e = .returned (.int .i64 (distV xs ys)) ∧ Below w.heap.size w w' := by
  have hl := (cardOk_len hx).2
  have ha2 := (ha.a1 (.cells #[.slice A xs.length c] 26)).a1 (.cells #[.slice A' ys.length c'] 26)
  have hb2 := (hb.a1 (.cells #[.slice A xs.length c] 26)).a1 (.cells #[.slice A' ys.length c'] 26)
  have HE := Lib.hid he
  clear ha hb he
  go_enter Try.func78, Try.ntmps78
  go_wp2
  go_loop [5, 6, 7, 11] (fun s u v i => ∃ k : Nat, k ≤ xs.length ∧ i = .int .i64 k ∧ s = .int .i64 (distTo xs ys k)) (fun _ _ _ i => xs.length - (intOf i).toNat)
  case atStart => exact ⟨0, Nat.zero_le _, rfl, rfl⟩
  case round =>
    obtain ⟨k, hk, rfl, rfl⟩ := hrel
    by_cases hlt : k < xs.length
    · have hlt' : k < ys.length := by have := HE.out; omega
      obtain ⟨b, off, rfl, _, hc⟩ := ha2.at_ hlt
      obtain ⟨b', off', rfl, _, hc'⟩ := hb2.at_ hlt'
      have h1 := hc k _ (ints_get xs k hlt)
      have h2 := hc' k _ (ints_get ys k hlt')
      have g1 := cardOk_hole hx hlt
      have g2 := cardOk_hole hy hlt'
      have gx := xor12_range g1.1 g1.2 g2.1 g2.2
      have gd := diffI_range g1.1 g1.2 g2.1 g2.2
      have gt := distTo_range hx hy k
      have gp : 0 ≤ popI (bits .xor .i64 xs[k] ys[k]) ∧ popI (bits .xor .i64 xs[k] ys[k]) ≤ 12 := gd
      have HS := Lib.hid (show distTo xs ys (k + 1) = distTo xs ys k + popI (bits .xor .i64 xs[k] ys[k]) by simp only [distTo, getD_at hlt, getD_at hlt']; rfl)
      clear hc hc' ha2 hb2 gd
      go_wp2_with fail
      refine (onesOf_int _ gx.1 gx.2 _).mono ?_; rintro e w1 ⟨rfl, rfl⟩
      go_wp2
      go_round
      case rel => exact ⟨k + 1, by omega, by go_num, by rw [HS.out]⟩
      case measure => simp [intOf]; omega
    · obtain rfl : k = xs.length := by omega
      go_wp2
      go_ret
      exact ⟨rfl, ba (ba (b0 _) _) _⟩

set_option maxHeartbeats 1000000 in
theorem l06Far_any (p q p' q' : Nat) (A A' : Option Addr) (c c' : Nat) (xs ys : List Int) (w : World) (hp : w.cell? ⟨p, q, none⟩ = some (.slice A xs.length c)) (hp' : w.cell? ⟨p', q', none⟩ = some (.slice A' ys.length c')) (ha : Rd w w.heap.size 1 A xs.length (ints xs)) (hb : Rd w w.heap.size 1 A' ys.length (ints ys)) (hx : cardOk xs = true) (hy : cardOk ys = true) (he : ys.length = xs.length) :
    Calls Try.prog 80 #[.pointer (some ⟨p, q, none⟩), .pointer (some ⟨p', q', none⟩)] w fun e w' => e = .returned (.int .i64 (distV xs ys)) ∧ Below w.heap.size w w' := by
  have hl := (cardOk_len hx).2
  have HE := Lib.hid he
  clear he
  go_enter Try.func80, Try.ntmps80
  go_wp2
  go_loopw [5, 6] (fun s i wr => ∃ k : Nat, k ≤ xs.length ∧ i = .int .i64 k ∧ s = .int .i64 (distTo xs ys k) ∧ Below w.heap.size w wr) (fun _ i _ => xs.length - (intOf i).toNat)
  case atStart => exact ⟨0, Nat.zero_le _, rfl, rfl, b0 _⟩
  case round =>
    obtain ⟨k, hk, rfl, rfl, hbw⟩ := hrel
    replace hp := cell_later hbw hp
    replace hp' := cell_later hbw hp'
    by_cases hlt : k < xs.length
    · have hlt' : k < ys.length := by have := HE.out; omega
      obtain ⟨b, off, rfl, _, hc⟩ := (ha.up hbw).at_ hlt
      obtain ⟨b', off', rfl, _, hc'⟩ := (hb.up hbw).at_ hlt'
      have h1 := hc k _ (ints_get xs k hlt)
      have h2 := hc' k _ (ints_get ys k hlt')
      have g1 := cardOk_hole hx hlt
      have g2 := cardOk_hole hy hlt'
      have gx := xor12_range g1.1 g1.2 g2.1 g2.2
      have gd := diffI_range g1.1 g1.2 g2.1 g2.2
      have gt := distTo_range hx hy k
      have gp : 0 ≤ popI (bits .xor .i64 xs[k] ys[k]) ∧ popI (bits .xor .i64 xs[k] ys[k]) ≤ 12 := gd
      have gw : IntKind.i64.wrap (distTo xs ys k + popI (bits .xor .i64 xs[k] ys[k])) = distTo xs ys k + popI (bits .xor .i64 xs[k] ys[k]) := IntWalk.i64_in _ (by omega)
      have HS := Lib.hid (show distTo xs ys (k + 1) = distTo xs ys k + popI (bits .xor .i64 xs[k] ys[k]) by simp only [distTo, getD_at hlt, getD_at hlt']; rfl)
      clear hc hc' ha hb gd
      go_wp2_with fail
      go_quiet ((go_at_call 143; exact quiet_l (l02Count_int _ gx.1 gx.2 _)))
      clear gw
      go_wp2
      go_roundw
      case rel => exact ⟨k + 1, by omega, by go_num, by rw [HS.out], below_drewN hbw _⟩
      case measure => simp [intOf]; omega
    · obtain rfl : k = xs.length := by omega
      go_wp2
      go_ret
      exact ⟨rfl, hbw⟩

theorem l06Far_n (n p q p' q' : Nat) (A A' : Option Addr) (c c' : Nat) (xs ys : List Int) (w : World) (hn : xs.length = n) (hp : w.cell? ⟨p, q, none⟩ = some (.slice A n c)) (hp' : w.cell? ⟨p', q', none⟩ = some (.slice A' ys.length c')) (ha : Rd w w.heap.size 1 A n (ints xs)) (hb : Rd w w.heap.size 1 A' ys.length (ints ys)) (hx : cardOk xs = true) (hy : cardOk ys = true) (he : ys.length = n) :
    Calls Try.prog 80 #[.pointer (some ⟨p, q, none⟩), .pointer (some ⟨p', q', none⟩)] w fun e w' => e = .returned (.int .i64 (distV xs ys)) ∧ Below w.heap.size w w' := by
  subst hn
  exact l06Far_any p q p' q' A A' c c' xs ys w hp hp' ha hb hx hy he
theorem distanceOf_n (n : Nat) (A A' : Option Addr) (c c' : Nat) (xs ys : List Int) (w : World) (hn : xs.length = n) (ha : Rd w w.heap.size 1 A n (ints xs)) (hb : Rd w w.heap.size 1 A' ys.length (ints ys)) (hx : cardOk xs = true) (hy : cardOk ys = true) (he : ys.length = n) :
    Calls Try.prog 78 #[.agg #[.slice A n c], .agg #[.slice A' ys.length c']] w fun e w' => e = .returned (.int .i64 (distV xs ys)) ∧ Below w.heap.size w w' := by
  subst hn
  exact distanceOf_any A A' c c' xs ys w ha hb hx hy he
end Go.Proofs.Ythbgdnjlmaadjaa

/-! ### The first least element; slices.Min, slices.Index at int64. -/
namespace Go.Proofs.Ythbgdnjlmaadjaa
open Go.RowKit

def bestTo (f : Nat → Int) : Nat → Nat
  | 0 => 0
  | k + 1 => if f k < f (bestTo f k) then k else bestTo f k
theorem bestTo_lt (f : Nat → Int) (k : Nat) (h : 0 < k) : bestTo f k < k := by
  induction k with
  | zero => omega
  | succ k ih =>
    simp only [bestTo]
    split
    · omega
    · by_cases h0 : k = 0
      · subst h0; simp [bestTo]
      · have := ih (by omega); omega
theorem bestTo_min (f : Nat → Int) (k j : Nat) (h : j < k) : f (bestTo f k) ≤ f j := by
  induction k with
  | zero => omega
  | succ k ih =>
    simp only [bestTo]
    by_cases hj : j = k
    · subst hj; split <;> omega
    · have := ih (by omega)
      split <;> omega
theorem bestTo_first (f : Nat → Int) (k j : Nat) (h : j < bestTo f k) : f (bestTo f k) < f j := by
  induction k with
  | zero => simp [bestTo] at h
  | succ k ih =>
    simp only [bestTo] at h ⊢
    split at h
    · rename_i hq
      rw [if_pos hq]
      have := bestTo_min f k j (by omega)
      omega
    · rename_i hq
      rw [if_neg hq]
      exact ih h
theorem bestTo_yes {f : Nat → Int} {k : Nat} (h : f k < f (bestTo f k)) : bestTo f (k + 1) = k := by simp only [bestTo, if_pos h]
theorem bestTo_no {f : Nat → Int} {k : Nat} (h : ¬ f k < f (bestTo f k)) : bestTo f (k + 1) = bestTo f k := by simp only [bestTo, if_neg h]
theorem bestTo_congr {f g : Nat → Int} {n : Nat} (h : ∀ k, k < n → f k = g k) : ∀ k, k ≤ n → bestTo f k = bestTo g k := by
  intro k
  induction k with
  | zero => intro _; rfl
  | succ k ih =>
    intro hk
    have e := ih (by omega)
    have hb : k = 0 ∨ bestTo g k < k := by
      by_cases h0 : k = 0
      · exact .inl h0
      · exact .inr (bestTo_lt g k (by omega))
    have hb' : bestTo g k < n := by
      rcases hb with h0 | h0
      · subst h0; simp [bestTo]; omega
      · omega
    simp only [bestTo, e, h k (by omega), h _ hb']
def atI (xs : List Int) (k : Nat) : Int := xs.getD k 0
theorem atI_get {xs : List Int} {k : Nat} (h : k < xs.length) : atI xs k = xs[k] := by simp [atI, List.getD, List.getElem?_eq_getElem h]

set_option maxHeartbeats 1000000 in
theorem MinInts_any (A : Option Addr) (c : Nat) (xs : List Int) (w : World) (ha : Rd w w.heap.size 1 A xs.length (ints xs)) (h1 : 1 ≤ xs.length) (hl : xs.length ≤ 1048576) :
    Calls Try.prog 111 #[.slice A xs.length c] w fun e w' => e = .returned (.int .i64 (atI xs (bestTo (atI xs) xs.length))) ∧ w = w' := by
  obtain ⟨b, off, rfl, _, hc⟩ := ha.at_ (k := 0) (by omega)
  have h0 := hc 0 _ (ints_get xs 0 (by omega))
  rw [Nat.add_zero] at h0
  have e0 : ¬ (xs.length : Int) < 1 := by omega
  have i0 : (0 : Int) < (xs.length : Int) := by omega
  have HA0 := Lib.hid (atI_get (xs := xs) (k := 0) (by omega))
  go_enter Try.func111, Try.ntmps111
  go_wp2
  go_loop [3, 4] (fun m i => ∃ k : Nat, 1 ≤ k ∧ k ≤ xs.length ∧ i = .int .i64 k ∧ m = .int .i64 (atI xs (bestTo (atI xs) k))) (fun _ i => xs.length - (intOf i).toNat)
  case atStart => exact ⟨1, by omega, by omega, rfl, by simp only [bestTo, Int.lt_irrefl, if_false]; rw [HA0.out]⟩
  case round =>
    obtain ⟨k, hk1, hk, rfl, rfl⟩ := hrel
    by_cases hlt : k < xs.length
    · have h2 := hc k _ (ints_get xs k hlt)
      have HA := Lib.hid (atI_get hlt)
      by_cases hq : xs[k] < atI xs (bestTo (atI xs) k)
      · have HB := Lib.hid (bestTo_yes (f := atI xs) (k := k) (by rw [HA.out]; exact hq))
        have hle : ¬ atI xs (bestTo (atI xs) k) ≤ xs[k] := by omega
        have hmin : min (atI xs (bestTo (atI xs) k)) xs[k] = xs[k] := by omega
        clear hc
        go_wp2
        go_round
        case rel => exact ⟨k + 1, by omega, by omega, by go_num, by rw [HB.out, HA.out]⟩
        case measure => simp [intOf]; omega
      · have HB := Lib.hid (bestTo_no (f := atI xs) (k := k) (by rw [HA.out]; exact hq))
        have hle : atI xs (bestTo (atI xs) k) ≤ xs[k] := by omega
        have hmin : min (atI xs (bestTo (atI xs) k)) xs[k] = atI xs (bestTo (atI xs) k) := by omega
        clear hc
        go_wp2
        go_round
        case rel => exact ⟨k + 1, by omega, by omega, by go_num, by rw [HB.out]⟩
        case measure => simp [intOf]; omega
    · obtain rfl : k = xs.length := by omega
      go_wp2
      go_ret
      exact ⟨rfl, rfl⟩

theorem IndexInts_any (A : Option Addr) (c : Nat) (xs : List Int) (v : Int) (w : World) (ha : Rd w w.heap.size 1 A xs.length (ints xs)) (hl : xs.length ≤ 1048576) :
    Calls Try.prog 112 #[.slice A xs.length c, .int .i64 v] w fun e w' => e = .returned (.int .i64 (idxP (fun x => v == x) xs)) ∧ w = w' := by
  go_enter Try.func112, Try.ntmps112
  go_wp2
  go_loop [5, 8] (fun _ i => ∃ k : Nat, k ≤ xs.length ∧ i = .int .i64 k ∧ (xs.take k).any (fun x => v == x) = false) (fun _ i => xs.length - (intOf i).toNat)
  case atStart => exact ⟨0, Nat.zero_le _, rfl, rfl⟩
  case round =>
    obtain ⟨k, hk, rfl, hno⟩ := hrel
    have HNO := Lib.hid hno
    clear hno
    by_cases hlt : k < xs.length
    · obtain ⟨b, off, rfl, _, hc⟩ := ha.at_ hlt
      have h1 := hc k _ (ints_get xs k hlt)
      clear hc ha
      by_cases hq : v = xs[k]
      · have HP := Lib.hid (idxP_some (p := fun x => v == x) hlt HNO.out (by simpa using hq))
        have e1 := beq_t hq
        clear hq
        go_wp2
        go_ret
        exact ⟨ret_int (by rw [HP.out]), rfl⟩
      · have HP := Lib.hid (any_take_succ (p := fun x => v == x) hlt HNO.out (by simpa using hq))
        have e1 := beq_f hq
        clear hq
        go_wp2
        go_round
        case rel => exact ⟨k + 1, by omega, by go_num, HP.out⟩
        case measure => simp [intOf]; omega
    · have HP := Lib.hid (idxP_none (p := fun x => v == x) (any_take_all hlt HNO.out))
      go_wp2
      go_ret
      exact ⟨ret_int (by rw [HP.out]), rfl⟩
/-- The first place of the least element. -/
theorem idx_best {xs : List Int} (h : 1 ≤ xs.length) : idxP (fun x => atI xs (bestTo (atI xs) xs.length) == x) xs = (bestTo (atI xs) xs.length : Nat) := by
  have hb := bestTo_lt (atI xs) xs.length (by omega)
  refine idxP_some hb ?_ ?_
  · rw [List.any_eq_false]
    intro x hx
    obtain ⟨j, hj, rfl⟩ := List.mem_take_iff_getElem.1 hx
    have h1 := bestTo_first (atI xs) xs.length j (by omega)
    rw [atI_get (k := j) (by omega)] at h1
    simp
    omega
  · rw [atI_get hb]
    simp
end Go.Proofs.Ythbgdnjlmaadjaa

/-! ### NearestCard; in the program and in the reference. -/
namespace Go.Proofs.Ythbgdnjlmaadjaa
open Go.RowKit

def nearC (L : List (List Int)) (xs : List Int) : Int := if deckOk L = true ∧ cardOk xs = true then (if L.length = 0 then 3 else if wid0 L = xs.length then 0 else 2) else 1
def dists (L : List (List Int)) (xs : List Int) : List Int := L.map fun x => distV x xs
def nearK (L : List (List Int)) (xs : List Int) : Nat := bestTo (atI (dists L xs)) L.length
def nearA (L : List (List Int)) (xs : List Int) : Int := if nearC L xs = 0 then (nearK L xs : Int) else 0
def nearD (L : List (List Int)) (xs : List Int) : Int := if nearC L xs = 0 then atI (dists L xs) (nearK L xs) else 0
theorem near_bad {L : List (List Int)} {xs : List Int} (h : ¬ nearC L xs = 0) : nearA L xs = 0 ∧ nearD L xs = 0 := by
  unfold nearA nearD
  rw [if_neg h, if_neg h]
  exact ⟨rfl, rfl⟩
theorem near_ok {L : List (List Int)} {xs : List Int} (h : nearC L xs = 0) : nearA L xs = (nearK L xs : Int) ∧ nearD L xs = atI (dists L xs) (nearK L xs) := by
  unfold nearA nearD
  rw [if_pos h, if_pos h]
  exact ⟨rfl, rfl⟩
theorem nearC_1 {L : List (List Int)} {xs : List Int} (h : deckOk L = false) : nearC L xs = 1 := by unfold nearC; rw [if_neg (by simp [h])]
theorem nearC_2 {L : List (List Int)} {xs : List Int} (h : cardOk xs = false) : nearC L xs = 1 := by unfold nearC; rw [if_neg (by simp [h])]
theorem nearC_3 {L : List (List Int)} {xs : List Int} (h : deckOk L = true) (h' : cardOk xs = true) (h0 : L.length = 0) : nearC L xs = 3 := by unfold nearC; rw [if_pos ⟨h, h'⟩, if_pos h0]
theorem nearC_4 {L : List (List Int)} {xs : List Int} (h : deckOk L = true) (h' : cardOk xs = true) (h0 : ¬ L.length = 0) (h1 : ¬ wid0 L = xs.length) : nearC L xs = 2 := by unfold nearC; rw [if_pos ⟨h, h'⟩, if_neg h0, if_neg h1]
theorem nearC_5 {L : List (List Int)} {xs : List Int} (h : deckOk L = true) (h' : cardOk xs = true) (h0 : ¬ L.length = 0) (h1 : wid0 L = xs.length) : nearC L xs = 0 := by unfold nearC; rw [if_pos ⟨h, h'⟩, if_neg h0, if_pos h1]
theorem dists_length (L : List (List Int)) (xs : List Int) : (dists L xs).length = L.length := by simp [dists]
theorem dists_at {hs : List Hd} {xs : List Int} {k : Nat} (h : k < hs.length) : atI (dists (cards hs) xs) k = distV hs[k].xs xs := by
  rw [atI_get (by rw [dists_length, cards_length]; exact h)]
  simp [dists, cards]
theorem dists_snoc {hs : List Hd} {xs : List Int} {k : Nat} (h : k < hs.length) : (dists (cards hs) xs).take (k + 1) = (dists (cards hs) xs).take k ++ [distV hs[k].xs xs] := by
  rw [List.take_succ_eq_append_getElem (by rw [dists_length, cards_length]; exact h)]
  simp [dists, cards]
theorem ret_iii {a b c a' b' c' : Int} (h1 : a = a') (h2 : b = b') (h3 : c = c') : Ending.returned (.tuple #[.int .i64 a, .int .i64 b, .int .i64 c]) = .returned (.tuple #[.int .i64 a', .int .i64 b', .int .i64 c']) := by rw [h1, h2, h3]

set_option maxHeartbeats 4000000 in
theorem NearestCard_any (D : Option Addr) (c : Nat) (hs : List Hd) (L : List (List Int)) (A : Option Addr) (c' : Nat) (xs : List Int) (w : World) (ha : RdD w w.heap.size D hs) (hL : cards hs = L) (hl : hs.length + tot hs ≤ 1048576) (_hc : hs.length ≤ c) (hb : Rd w w.heap.size 1 A xs.length (ints xs)) (hl' : xs.length ≤ 1048576) (_hc' : xs.length ≤ c') :
    Calls Try.prog 37 #[.slice D hs.length c, .agg #[.slice A xs.length c']] w fun e w' => e = .returned (.tuple #[.int .i64 (nearA L xs), .int .i64 (nearD L xs), .int .i64 (nearC L xs)]) ∧ Below w.heap.size w w' := by
  subst hL
  have T0 : Below w.heap.size w (w.alloc (.cells #[.slice A xs.length c'] 26)) := ba (b0 _) _
  replace ha := ha.a1 (.cells #[.slice A xs.length c'] 26)
  replace hb := hb.a1 (.cells #[.slice A xs.length c'] 26)
  rcases Bool.eq_false_or_eq_true (deckOk (cards hs)) with h1 | h1
  case inr =>
    have HC := Lib.hid (nearC_1 (xs := xs) h1)
    have HB := Lib.hid (near_bad (L := cards hs) (xs := xs) (by rw [HC.out]; decide))
    go_enter Try.func37, Try.ntmps37
    go_wp2_with fail
    refine (ValidDeck_any _ _ hs _ ha hl).mono ?_; rintro e w1 ⟨rfl, hb1⟩
    go_wp2
    go_ret3
    exact ⟨ret_iii HB.out.1.symm HB.out.2.symm HC.out.symm, bs T0 hb1⟩
  rcases Bool.eq_false_or_eq_true (cardOk xs) with h2 | h2
  case inr =>
    have HC := Lib.hid (nearC_2 (L := cards hs) h2)
    have HB := Lib.hid (near_bad (L := cards hs) (xs := xs) (by rw [HC.out]; decide))
    go_enter Try.func37, Try.ntmps37
    go_wp2_with fail
    refine (ValidDeck_any _ _ hs _ ha hl).mono ?_; rintro e w1 ⟨rfl, hb1⟩
    have k1 : w1.cell? ⟨w.heap.size, 0, none⟩ = some (.slice A xs.length c') := cell_later hb1 (cell_new rfl rfl)
    go_wp2_with fail
    refine (ValidCard_any _ _ xs _ (hb.up hb1) hl').mono ?_; rintro e w2 ⟨rfl, hb2⟩
    go_wp2
    go_ret3
    exact ⟨ret_iii HB.out.1.symm HB.out.2.symm HC.out.symm, bs (bs T0 hb1) hb2⟩
  have H1 := Lib.hid h1
  have H2 := Lib.hid h2
  by_cases h3 : hs.length = 0
  · have HC := Lib.hid (nearC_3 (L := cards hs) h1 h2 (by rw [cards_length]; exact h3))
    have HB := Lib.hid (near_bad (L := cards hs) (xs := xs) (by rw [HC.out]; decide))
    have e0 := beq_t (a := (hs.length : Int)) (b := 0) (by omega)
    clear h3
    go_enter Try.func37, Try.ntmps37
    go_wp2_with fail
    refine (ValidDeck_any _ _ hs _ ha hl).mono ?_; rintro e w1 ⟨rfl, hb1⟩
    have k1 : w1.cell? ⟨w.heap.size, 0, none⟩ = some (.slice A xs.length c') := cell_later hb1 (cell_new rfl rfl)
    go_wp2_with fail
    refine (ValidCard_any _ _ xs _ (hb.up hb1) hl').mono ?_; rintro e w2 ⟨rfl, hb2⟩
    go_wp2
    go_ret3
    exact ⟨ret_iii HB.out.1.symm HB.out.2.symm HC.out.symm, bs (bs T0 hb1) hb2⟩
  have h0l : 0 < hs.length := by omega
  have i0 : (0 : Int) < (hs.length : Int) := by omega
  have e0 := beq_f (a := (hs.length : Int)) (b := 0) (by omega)
  have HW := Lib.hid (wid0_cards h0l)
  have hl0 : hs[0].xs.length ≤ 1048576 := by have := tot_at hs 0 h0l; omega
  have HN := Lib.hid (show hs.length ≤ 40 by have := deckOk_len h1; rwa [cards_length] at this)
  by_cases h4 : hs[0].xs.length = xs.length
  case neg =>
    have HC := Lib.hid (nearC_4 (L := cards hs) h1 h2 (by rw [cards_length]; exact h3) (by rw [HW.out]; exact h4))
    have HB := Lib.hid (near_bad (L := cards hs) (xs := xs) (by rw [HC.out]; decide))
    have e1 := bne_t (a := (hs[0].xs.length : Int)) (b := (xs.length : Int)) (by omega)
    have e2 := beq_f (a := (hs[0].xs.length : Int)) (b := (xs.length : Int)) (by omega)
    clear h3 h4
    go_enter Try.func37, Try.ntmps37
    go_wp2_with fail
    refine (ValidDeck_any _ _ hs _ ha hl).mono ?_; rintro e w1 ⟨rfl, hb1⟩
    have k1 : w1.cell? ⟨w.heap.size, 0, none⟩ = some (.slice A xs.length c') := cell_later hb1 (cell_new rfl rfl)
    go_wp2_with fail
    refine (ValidCard_any _ _ xs _ (hb.up hb1) hl').mono ?_; rintro e w2 ⟨rfl, hb2⟩
    replace k1 := cell_later hb2 k1
    obtain ⟨b, off, hD, hbb, hcell⟩ := ((ha.up hb1).up hb2).at_ h0l
    subst hD
    have k0 := hcell 0 h0l
    rw [Nat.add_zero] at k0
    have l0 := fun x : Later w2 => lat_cell x k0
    have l1 := fun x : Later w2 => lat_cell x k1
    clear hcell
    go_wp2_with fail
    refine wp_region_later (by kernel_rfl) (by kernel_rfl) ?_
    repeat (go_big_quiet_step ((go_at_call 82; first | exact lat_call (columns_any _ _ _ _ hl0) | exact lat_call (columns_any _ _ _ _ hl'))))
    refine wpQuiet_nil ?_
    intro w3 hb3
    go_wp2
    go_ret3
    exact ⟨ret_iii HB.out.1.symm HB.out.2.symm HC.out.symm, bs (bs (bs T0 hb1) hb2) hb3⟩
  have HC := Lib.hid (nearC_5 (L := cards hs) h1 h2 (by rw [cards_length]; exact h3) (by rw [HW.out]; exact h4))
  have HB := Lib.hid (near_ok HC.out)
  have e1 := bne_f (a := (hs[0].xs.length : Int)) (b := (xs.length : Int)) (by omega)
  have e2 := beq_t (a := (hs[0].xs.length : Int)) (b := (xs.length : Int)) (by omega)
  have H4 := Lib.hid h4
  obtain ⟨i1', hi, hz0, hz1, hz2⟩ := info_parts info_i64
  clear h3 h4
  go_enter Try.func37, Try.ntmps37
  go_wp2_with fail
  refine (ValidDeck_any _ _ hs _ ha hl).mono ?_; rintro e w1 ⟨rfl, hb1⟩
  have k1 : w1.cell? ⟨w.heap.size, 0, none⟩ = some (.slice A xs.length c') := cell_later hb1 (cell_new rfl rfl)
  go_wp2_with fail
  refine (ValidCard_any _ _ xs _ (hb.up hb1) hl').mono ?_; rintro e w2 ⟨rfl, hb2⟩
  replace k1 := cell_later hb2 k1
  have ra := (ha.up hb1).up hb2
  obtain ⟨b, off, hD, hbb, hcell⟩ := ra.at_ h0l
  subst hD
  have k0 := hcell 0 h0l
  rw [Nat.add_zero] at k0
  have l0 := fun x : Later w2 => lat_cell x k0
  have l1 := fun x : Later w2 => lat_cell x k1
  clear hcell
  go_wp2_with fail
  refine wp_region_later (by kernel_rfl) (by kernel_rfl) ?_
  repeat (go_big_quiet_step ((go_at_call 82; first | exact lat_call (columns_any _ _ _ _ hl0) | exact lat_call (columns_any _ _ _ _ hl'))))
  refine wpQuiet_nil ?_
  intro w3 hb3
  clear l0 l1 k0
  replace k1 := cell_later hb3 k1
  replace ra := ra.up hb3
  have rb := ((hb.up hb1).up hb2).up hb3
  have T3 := bs (bs (bs T0 hb1) hb2) hb3
  clear ha hb hb1 hb2 hb3 T0
  go_wp2
  go_loopw [7, 9, 35] (fun o _ i wr => ∃ (k : Nat) (G : Option Addr) (cg : Nat) (ds : List Int), k ≤ hs.length ∧ i = .int .i64 k ∧ ds.length = k ∧ o = .slice G k cg ∧ ds = (dists (cards hs) xs).take k ∧ wr.ownsRow w3.heap.size 2 1 (.slice G k cg) k (ints ds) ∧ Below w3.heap.size w3 wr)
    (fun _ _ i _ => hs.length - (intOf i).toNat)
  case atStart => exact ⟨0, _, _, [], Nat.zero_le _, rfl, rfl, rfl, by simp, own_lit w3 #[] 0 rfl (Nat.le_refl _) (by omega) rfl, ba (b0 _) _⟩
  case round =>
    obtain ⟨k, G, cg, ds, hk, rfl, hdl, rfl, hds, hown, hbw⟩ := hrel
    have HDL := Lib.hid hdl
    have HDS := Lib.hid hds
    clear hdl hds
    have hn40 := HN.out
    by_cases hlt : k < hs.length
    · have hra := ra.up hbw
      have rc := (hra.card_at hlt).a1 (.cells #[.slice hs[k].a hs[k].xs.length hs[k].c] 26)
      have rx := (rb.up hbw).a1 (.cells #[.slice hs[k].a hs[k].xs.length hs[k].c] 26)
      have i1 : (k : Int) < (hs.length : Int) := by omega
      obtain ⟨b', off', hD, hbb', hcell⟩ := hra.at_ hlt
      injection hD with hD
      injection hD with hD1 hD2
      subst hD1
      subst hD2
      have k2 := hcell k hlt
      have k3 := cell_alloc (cell_later hbw k1) (.cells #[.slice hs[k].a hs[k].xs.length hs[k].c] 26)
      have HK := Lib.hid (deckOk_hd H1.out hlt)
      have hxl : xs.length = hs[k].xs.length := by rw [HK.out.2, HW.out, H4.out]
      have HSN := Lib.hid (dists_snoc (xs := xs) hlt)
      have HX := Lib.hid hxl
      clear hcell hra hxl
      go_wp2_with fail
      refine (distanceOf_any _ _ _ _ hs[k].xs xs _ rc rx HK.out.1 H2.out HX.out).mono ?_; rintro e w4 ⟨rfl, hb4⟩
      have hown1 := own_bs (hown.alloc (.cells #[.slice hs[k].a hs[k].xs.length hs[k].c] 26)) hb4
      have HB4 := Lib.hid (bs (ba hbw (.cells #[.slice hs[k].a hs[k].xs.length hs[k].c] 26)) hb4)
      have hbase := HB4.out.size
      clear hown hb4 rc rx k3
      go_wp2_with (at_builtin; refine wpList_ap rfl (.tmp 39) (.tmp 43) 24 rfl w3.heap.size 2 i1' _ 1 8 Try.underlying24 hi hz0 hz1 hz2 rfl (by omega) G k cg (ints ds) rfl w4 hown1 1 #[.int .i64 (distV hs[k].xs xs)] w4.heap.size rfl rfl rfl (by intro u hu; simp at hu; subst hu; rfl) (by omega) (by omega) (by omega) hbase ?_; intro g cap w5 hown2 hb5 hg5 _ _)
      have HO := Lib.hid (show w5.ownsRow w3.heap.size 2 1 (.slice (some ⟨g, 0, none⟩) (k + 1) cap) (k + 1) (ints (ds ++ [distV hs[k].xs xs])) by rw [ints_snoc]; exact hown2)
      have HB5 := Lib.hid (HB4.out.trans hb5)
      clear hown1 hown2 hb5 hg5 hbase hn40
      go_wp2
      go_roundw
      case rel => exact ⟨k + 1, some ⟨g, 0, none⟩, cap, ds ++ [distV hs[k].xs xs], by omega, by go_num, by rw [List.length_append, HDL.out]; rfl, rfl, by rw [HSN.out, HDS.out], HO.out, HB5.out⟩
      case measure => simp [intOf]; omega
    · obtain rfl : k = hs.length := by omega
      have HDD := Lib.hid (show ds = dists (cards hs) xs by rw [HDS.out, List.take_of_length_le (by rw [dists_length, cards_length]; omega)])
      have hrd := Rd.own hown
      have hrd1 : Rd wr wr.heap.size 1 G ds.length (ints ds) := by rw [HDL.out]; exact hrd
      rw [← HDL.out]
      have hd1 : 1 ≤ ds.length := by rw [HDL.out]; omega
      have hd2 : ds.length ≤ 1048576 := by rw [HDL.out]; omega
      clear hown hrd
      go_wp2_with fail
      refine (MinInts_any _ _ ds _ hrd1 hd1 hd2).mono ?_; rintro e w4 ⟨rfl, rfl⟩
      go_wp2_with fail
      refine (IndexInts_any _ _ ds _ _ hrd1 hd2).mono ?_; rintro e w4 ⟨rfl, rfl⟩
      have HI := Lib.hid (idx_best hd1)
      have HL := Lib.hid (show (cards hs).length = ds.length by rw [cards_length, HDL.out])
      go_wp2
      go_ret3
      exact ⟨ret_iii (by rw [HB.out.1, HI.out, nearK, ← HDD.out, HL.out]) (by rw [HB.out.2, nearK, ← HDD.out, HL.out]) HC.out.symm, bs T3 hbw⟩

set_option maxHeartbeats 4000000 in
theorem spNearestCard_any (D : Option Addr) (c : Nat) (hs : List Hd) (L : List (List Int)) (A : Option Addr) (c' : Nat) (xs : List Int) (w : World) (ha : RdD w w.heap.size D hs) (hL : cards hs = L) (hl : hs.length + tot hs ≤ 1048576) (_hc : hs.length ≤ c) (hb : Rd w w.heap.size 1 A xs.length (ints xs)) (hl' : xs.length ≤ 1048576) (_hc' : xs.length ≤ c') :
    Calls Try.prog 38 #[.slice D hs.length c, .agg #[.slice A xs.length c']] w fun e w' => e = .returned (.tuple #[.int .i64 (nearA L xs), .int .i64 (nearD L xs), .int .i64 (nearC L xs)]) ∧ Below w.heap.size w w' := by
  subst hL
  have T0 : Below w.heap.size w (w.alloc (.cells #[.slice A xs.length c'] 26)) := ba (b0 _) _
  replace ha := ha.a1 (.cells #[.slice A xs.length c'] 26)
  replace hb := hb.a1 (.cells #[.slice A xs.length c'] 26)
  rcases Bool.eq_false_or_eq_true (deckOk (cards hs)) with h1 | h1
  case inr =>
    have HC := Lib.hid (nearC_1 (xs := xs) h1)
    have HB := Lib.hid (near_bad (L := cards hs) (xs := xs) (by rw [HC.out]; decide))
    go_enter Try.func38, Try.ntmps38
    go_wp2_with fail
    refine (l02Deck_any _ _ hs _ ha hl).mono ?_; rintro e w1 ⟨rfl, hb1⟩
    go_wp2
    go_ret3
    exact ⟨ret_iii HB.out.1.symm HB.out.2.symm HC.out.symm, bs T0 hb1⟩
  rcases Bool.eq_false_or_eq_true (cardOk xs) with h2 | h2
  case inr =>
    have HC := Lib.hid (nearC_2 (L := cards hs) h2)
    have HB := Lib.hid (near_bad (L := cards hs) (xs := xs) (by rw [HC.out]; decide))
    go_enter Try.func38, Try.ntmps38
    go_wp2_with fail
    refine (l02Deck_any _ _ hs _ ha hl).mono ?_; rintro e w1 ⟨rfl, hb1⟩
    have k1 : w1.cell? ⟨w.heap.size, 0, none⟩ = some (.slice A xs.length c') := cell_later hb1 (cell_new rfl rfl)
    go_wp2_with fail
    refine (l02Ok_any _ _ A c' xs _ k1 (hb.up hb1) hl').mono ?_; rintro e w2 ⟨rfl, hb2⟩
    go_wp2
    go_ret3
    exact ⟨ret_iii HB.out.1.symm HB.out.2.symm HC.out.symm, bs (bs T0 hb1) hb2⟩
  have H1 := Lib.hid h1
  have H2 := Lib.hid h2
  by_cases h3 : hs.length = 0
  · have HC := Lib.hid (nearC_3 (L := cards hs) h1 h2 (by rw [cards_length]; exact h3))
    have HB := Lib.hid (near_bad (L := cards hs) (xs := xs) (by rw [HC.out]; decide))
    have e0 := beq_t (a := (hs.length : Int)) (b := 0) (by omega)
    clear h3
    go_enter Try.func38, Try.ntmps38
    go_wp2_with fail
    refine (l02Deck_any _ _ hs _ ha hl).mono ?_; rintro e w1 ⟨rfl, hb1⟩
    have k1 : w1.cell? ⟨w.heap.size, 0, none⟩ = some (.slice A xs.length c') := cell_later hb1 (cell_new rfl rfl)
    go_wp2_with fail
    refine (l02Ok_any _ _ A c' xs _ k1 (hb.up hb1) hl').mono ?_; rintro e w2 ⟨rfl, hb2⟩
    go_wp2
    go_ret3
    exact ⟨ret_iii HB.out.1.symm HB.out.2.symm HC.out.symm, bs (bs T0 hb1) hb2⟩
  have h0l : 0 < hs.length := by omega
  have i0 : (0 : Int) < (hs.length : Int) := by omega
  have e0 := beq_f (a := (hs.length : Int)) (b := 0) (by omega)
  have HW := Lib.hid (wid0_cards h0l)
  have HN := Lib.hid (show hs.length ≤ 40 by have := deckOk_len h1; rwa [cards_length] at this)
  by_cases h4 : hs[0].xs.length = xs.length
  case neg =>
    have HC := Lib.hid (nearC_4 (L := cards hs) h1 h2 (by rw [cards_length]; exact h3) (by rw [HW.out]; exact h4))
    have HB := Lib.hid (near_bad (L := cards hs) (xs := xs) (by rw [HC.out]; decide))
    have e1 := bne_t (a := (hs[0].xs.length : Int)) (b := (xs.length : Int)) (by omega)
    have e2 := beq_f (a := (hs[0].xs.length : Int)) (b := (xs.length : Int)) (by omega)
    clear h3 h4
    go_enter Try.func38, Try.ntmps38
    go_wp2_with fail
    refine (l02Deck_any _ _ hs _ ha hl).mono ?_; rintro e w1 ⟨rfl, hb1⟩
    have k1 : w1.cell? ⟨w.heap.size, 0, none⟩ = some (.slice A xs.length c') := cell_later hb1 (cell_new rfl rfl)
    go_wp2_with fail
    refine (l02Ok_any _ _ A c' xs _ k1 (hb.up hb1) hl').mono ?_; rintro e w2 ⟨rfl, hb2⟩
    replace k1 := cell_later hb2 k1
    obtain ⟨b, off, hD, hbb, hcell⟩ := ((ha.up hb1).up hb2).at_ h0l
    subst hD
    have k0 := hcell 0 h0l
    rw [Nat.add_zero] at k0
    have l0 := fun x : Later w2 => lat_cell x k0
    have l1 := fun x : Later w2 => lat_cell x k1
    clear hcell
    go_wp2_with fail
    refine wp_region_later (by kernel_rfl) (by kernel_rfl) ?_
    repeat (go_big_quiet_step (fail))
    refine wpQuiet_nil ?_
    intro w3 hb3
    go_wp2
    go_ret3
    exact ⟨ret_iii HB.out.1.symm HB.out.2.symm HC.out.symm, bs (bs (bs T0 hb1) hb2) hb3⟩
  have HC := Lib.hid (nearC_5 (L := cards hs) h1 h2 (by rw [cards_length]; exact h3) (by rw [HW.out]; exact h4))
  have HB := Lib.hid (near_ok HC.out)
  have e1 := bne_f (a := (hs[0].xs.length : Int)) (b := (xs.length : Int)) (by omega)
  have e2 := beq_t (a := (hs[0].xs.length : Int)) (b := (xs.length : Int)) (by omega)
  have H4 := Lib.hid h4
  clear h3 h4
  go_enter Try.func38, Try.ntmps38
  go_wp2_with fail
  refine (l02Deck_any _ _ hs _ ha hl).mono ?_; rintro e w1 ⟨rfl, hb1⟩
  have k1 : w1.cell? ⟨w.heap.size, 0, none⟩ = some (.slice A xs.length c') := cell_later hb1 (cell_new rfl rfl)
  go_wp2_with fail
  refine (l02Ok_any _ _ A c' xs _ k1 (hb.up hb1) hl').mono ?_; rintro e w2 ⟨rfl, hb2⟩
  replace k1 := cell_later hb2 k1
  have ra := (ha.up hb1).up hb2
  obtain ⟨b, off, hD, hbb, hcell⟩ := ra.at_ h0l
  subst hD
  have k0 := hcell 0 h0l
  rw [Nat.add_zero] at k0
  have l0 := fun x : Later w2 => lat_cell x k0
  have l1 := fun x : Later w2 => lat_cell x k1
  clear hcell
  go_wp2_with fail
  refine wp_region_later (by kernel_rfl) (by kernel_rfl) ?_
  repeat (go_big_quiet_step (fail))
  refine wpQuiet_nil ?_
  intro w3 hb3
  clear l0 l1 k0
  replace k1 := cell_later hb3 k1
  replace ra := ra.up hb3
  have rb := ((hb.up hb1).up hb2).up hb3
  have T3 := bs (bs (bs T0 hb1) hb2) hb3
  clear ha hb hb1 hb2 hb3 T0
  have hfar : ∀ (W : World) (k : Nat) (hk : k < hs.length), W.cell? ⟨w.heap.size, 0, none⟩ = some (.slice A xs.length c') → RdD W W.heap.size (some ⟨b, off, none⟩) hs → Rd W W.heap.size 1 A xs.length (ints xs) →
      Calls Try.prog 80 #[.pointer (some ⟨b, off + k, none⟩), .pointer (some ⟨w.heap.size, 0, none⟩)] W fun e w' => e = .returned (.int .i64 (atI (dists (cards hs) xs) k)) ∧ Below W.heap.size W w' := by
    intro W k hk q1 q2 q3
    obtain ⟨b', off', hD, _, hcell⟩ := q2.at_ hk
    injection hD with hD
    injection hD with hD1 hD2
    subst hD1
    subst hD2
    have HK := deckOk_hd H1.out hk
    rw [dists_at hk]
    exact l06Far_any b (off + k) w.heap.size 0 hs[k].a A hs[k].c c' hs[k].xs xs W (hcell k hk) q1 (q2.card_at hk) q3 HK.1 H2.out (by rw [HK.2, HW.out, H4.out])
  have HF := Lib.hid hfar
  clear hfar
  go_wp2
  go_loopw [7, 8] (fun m i wr => ∃ k : Nat, 1 ≤ k ∧ k ≤ hs.length ∧ i = .int .i64 k ∧ m = .int .i64 (bestTo (atI (dists (cards hs) xs)) k : Nat) ∧ Below w3.heap.size w3 wr) (fun _ i _ => hs.length - (intOf i).toNat)
  case atStart => exact ⟨1, by omega, by omega, rfl, by simp only [bestTo, Int.lt_irrefl, if_false]; rfl, b0 _⟩
  case round =>
    obtain ⟨k, hk1, hk, rfl, rfl, hbw⟩ := hrel
    have HBL := Lib.hid (bestTo_lt (atI (dists (cards hs) xs)) k (by omega))
    obtain ⟨p, hp⟩ : ∃ p, p = bestTo (atI (dists (cards hs) xs)) k := ⟨_, rfl⟩
    have HP := Lib.hid hp
    rw [← hp]
    have hpk : p < k := by have := HBL.out; omega
    clear hp
    by_cases hlt : k < hs.length
    · have hpl : p < hs.length := by omega
      have i1 : (k : Int) < (hs.length : Int) := by omega
      have i2 : (p : Int) < (hs.length : Int) := by omega
      have q1 := cell_later hbw k1
      have q2 := ra.up hbw
      have q3 := rb.up hbw
      have HY := Lib.hid (@bestTo_yes (atI (dists (cards hs) xs)) k)
      have HNN := Lib.hid (@bestTo_no (atI (dists (cards hs) xs)) k)
      by_cases hq : atI (dists (cards hs) xs) k < atI (dists (cards hs) xs) p
      · have HR := Lib.hid (HY.out (by rw [← HP.out]; exact hq))
        go_wp2_with fail
        refine wp_region_later (by kernel_rfl) (by kernel_rfl) ?_
        repeat (go_big_quiet_step ((first | (go_at_call_of 80 (Value.pointer (some ⟨b, off + k, none⟩)); exact lat_call (HF.out _ k hlt (lat_cell _ q1) (q2.up (Later.below _)) (lat_rd _ q3))) | (go_at_call_of 80 (Value.pointer (some ⟨b, off + p, none⟩)); exact lat_call (HF.out _ p hpl (lat_cell _ q1) (q2.up (Later.below _)) (lat_rd _ q3))))))
        refine wpQuiet_nil ?_
        intro w4 hb4
        go_wp2
        go_roundw
        case rel => exact ⟨k + 1, by omega, by omega, by go_num, by rw [HR.out], bs hbw hb4⟩
        case measure => simp [intOf]; omega
      · have HR := Lib.hid (HNN.out (by rw [← HP.out]; exact hq))
        go_wp2_with fail
        refine wp_region_later (by kernel_rfl) (by kernel_rfl) ?_
        repeat (go_big_quiet_step ((first | (go_at_call_of 80 (Value.pointer (some ⟨b, off + k, none⟩)); exact lat_call (HF.out _ k hlt (lat_cell _ q1) (q2.up (Later.below _)) (lat_rd _ q3))) | (go_at_call_of 80 (Value.pointer (some ⟨b, off + p, none⟩)); exact lat_call (HF.out _ p hpl (lat_cell _ q1) (q2.up (Later.below _)) (lat_rd _ q3))))))
        refine wpQuiet_nil ?_
        intro w4 hb4
        go_wp2
        go_roundw
        case rel => exact ⟨k + 1, by omega, by omega, by go_num, by rw [HR.out, HP.out], bs hbw hb4⟩
        case measure => simp [intOf]; omega
    · obtain rfl : k = hs.length := by omega
      have i2 : (p : Int) < (hs.length : Int) := by omega
      have HR := Lib.hid (show nearK (cards hs) xs = p by unfold nearK; rw [cards_length, HP.out])
      go_wp2_with fail
      refine (HF.out _ p hpk (cell_later hbw k1) (ra.up hbw) (rb.up hbw)).mono ?_; rintro e w4 ⟨rfl, hb4⟩
      go_wp2
      go_ret3
      exact ⟨ret_iii (by rw [HB.out.1, HR.out]) (by rw [HB.out.2, HR.out]) HC.out.symm, bs T3 (bs hbw hb4)⟩
end Go.Proofs.Ythbgdnjlmaadjaa
