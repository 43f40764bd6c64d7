/- Two cards at a time: their code, in the program and in the reference. -/
import Derived.Test.YtlnpkijeondidaaCards
import Derived.Deep.RegionHeld3
namespace Go.Proofs.Ytlnpkijeondidaa
open Go.RowKit

def pairC (xs ys : List Int) : Int := if cardOk xs = true ∧ cardOk ys = true then (if xs.length = ys.length then 0 else 2) else 1
theorem pairC_no1 {xs ys : List Int} (h : cardOk xs = false) : pairC xs ys = 1 := by unfold pairC; rw [if_neg (by simp [h])]
theorem pairC_no2 {xs ys : List Int} (h : cardOk ys = false) : pairC xs ys = 1 := by unfold pairC; rw [if_neg (by simp [h])]
theorem pairC_two {xs ys : List Int} (h1 : cardOk xs = true) (h2 : cardOk ys = true) (h : ¬ xs.length = ys.length) : pairC xs ys = 2 := by unfold pairC; rw [if_pos ⟨h1, h2⟩, if_neg h]
theorem pairC_ok {xs ys : List Int} (h1 : cardOk xs = true) (h2 : cardOk ys = true) (h : xs.length = ys.length) : pairC xs ys = 0 := by unfold pairC; rw [if_pos ⟨h1, h2⟩, if_pos h]
theorem pairC_zero {xs ys : List Int} (h : pairC xs ys = 0) : cardOk xs = true ∧ cardOk ys = true ∧ xs.length = ys.length := by
  unfold pairC at h
  split at h
  · rename_i h1
    split at h
    · rename_i h2
      exact ⟨h1.1, h1.2, h2⟩
    · simp at h
  · simp at h
theorem pairC_cases (xs ys : List Int) : pairC xs ys = 0 ∨ pairC xs ys = 1 ∨ pairC xs ys = 2 := by
  unfold pairC
  split
  · split
    · exact .inl rfl
    · exact .inr (.inr rfl)
  · exact .inr (.inl rfl)
theorem pairC_swap (xs ys : List Int) : pairC xs ys = pairC ys xs := by
  unfold pairC
  by_cases h : cardOk xs = true ∧ cardOk ys = true
  · rw [if_pos h, if_pos h.symm]
    by_cases h2 : xs.length = ys.length
    · rw [if_pos h2, if_pos h2.symm]
    · rw [if_neg h2, if_neg (fun e => h2 e.symm)]
  · rw [if_neg h, if_neg (fun e => h e.symm)]

set_option maxRecDepth 100000 in
set_option maxHeartbeats 1000000 in
theorem pairCode_any (A A' : Option Addr) (c c' : Nat) (xs ys : List Int) (w : World) (ha : Rd w w.heap.size 1 A xs.length (ints xs)) (hb : Rd w w.heap.size 1 A' ys.length (ints ys)) (hl : xs.length ≤ 1048576) (hl' : ys.length ≤ 1048576) :
    Calls Try.prog 70 #[.agg #[.slice A xs.length c], .agg #[.slice A' ys.length c']] w fun e w' => e = .returned (.int .i64 (pairC xs ys)) ∧ Below w.heap.size w w' := by
  rcases Bool.eq_false_or_eq_true (cardOk xs) with h1 | h1
  · rcases Bool.eq_false_or_eq_true (cardOk ys) with h2 | h2
    · by_cases h3 : xs.length = ys.length
      · have HP := Lib.hid (pairC_ok h1 h2 h3)
        have H3 := Lib.hid (show (xs.length : Int) = (ys.length : Int) by omega)
        clear h3
        go_enter Try.func70, Try.ntmps70
        go_wp2_with fail
        refine (ValidCard_any _ _ _ _ ((ha.a1 _).a1 _) hl).mono ?_; rintro e w1 ⟨rfl, hb1⟩
        have k1 : w1.cell? ⟨w.heap.size, 0, none⟩ = some (.slice A xs.length c) := cell_later hb1 (by simp)
        have k2 : w1.cell? ⟨w.heap.size + 1, 0, none⟩ = some (.slice A' ys.length c') := cell_later hb1 (by simp)
        have T1 : Below w.heap.size w w1 := bs (ba (ba (b0 _) _) _) hb1
        go_wp2_with fail
        refine (ValidCard_any _ _ _ _ (((hb.a1 _).a1 _).up hb1) hl').mono ?_; rintro e w2 ⟨rfl, hb2⟩
        replace k1 := cell_later hb2 k1
        replace k2 := cell_later hb2 k2
        have T2 : Below w.heap.size w w2 := bs T1 hb2
        have hp := Lib.hid (HP.out)
        go_wp2_with fail
        go_region_held3 (fun w' => w'.cell? ⟨w.heap.size, 0, none⟩ = some (.slice A xs.length c) ∧ w'.cell? ⟨w.heap.size + 1, 0, none⟩ = some (.slice A' ys.length c')) (first | exact ⟨k1, k2⟩ | go_keep)
          (first
            | (go_at_call 73; refine (columns_any A xs.length c _ ?_).mono ?_; (exact hl); rintro e w3 ⟨rfl, hb3⟩; have hb3 : Below w2.heap.size w2 w3 := ⟨hb3.os, hb3.tape, hb3.output, hb3.size, hb3.block⟩; have T3 := bs T2 hb3; replace k1 := cell_later hb3 k1; replace k2 := cell_later hb3 k2)
            | (go_at_call 73; refine (columns_any A' ys.length c' _ ?_).mono ?_; (exact hl'); rintro e w4 ⟨rfl, hb4⟩; have hb4 : Below w3.heap.size w3 w4 := ⟨hb4.os, hb4.tape, hb4.output, hb4.size, hb4.block⟩; have T4 := bs T3 hb4; replace k1 := cell_later hb4 k1; replace k2 := cell_later hb4 k2)
          )
        have h3i := H3.out
        go_wp2
        go_ret
        exact ⟨ret_int hp.out.symm, T4⟩
      · have HP := Lib.hid (pairC_two h1 h2 h3)
        have H3 := Lib.hid (show ¬ (xs.length : Int) = (ys.length : Int) by omega)
        clear h3
        go_enter Try.func70, Try.ntmps70
        go_wp2_with fail
        refine (ValidCard_any _ _ _ _ ((ha.a1 _).a1 _) hl).mono ?_; rintro e w1 ⟨rfl, hb1⟩
        have k1 : w1.cell? ⟨w.heap.size, 0, none⟩ = some (.slice A xs.length c) := cell_later hb1 (by simp)
        have k2 : w1.cell? ⟨w.heap.size + 1, 0, none⟩ = some (.slice A' ys.length c') := cell_later hb1 (by simp)
        have T1 : Below w.heap.size w w1 := bs (ba (ba (b0 _) _) _) hb1
        go_wp2_with fail
        refine (ValidCard_any _ _ _ _ (((hb.a1 _).a1 _).up hb1) hl').mono ?_; rintro e w2 ⟨rfl, hb2⟩
        replace k1 := cell_later hb2 k1
        replace k2 := cell_later hb2 k2
        have T2 : Below w.heap.size w w2 := bs T1 hb2
        have hp := Lib.hid (HP.out)
        go_wp2_with fail
        go_region_held3 (fun w' => w'.cell? ⟨w.heap.size, 0, none⟩ = some (.slice A xs.length c) ∧ w'.cell? ⟨w.heap.size + 1, 0, none⟩ = some (.slice A' ys.length c')) (first | exact ⟨k1, k2⟩ | go_keep)
          (first
            | (go_at_call 73; refine (columns_any A xs.length c _ ?_).mono ?_; (exact hl); rintro e w3 ⟨rfl, hb3⟩; have hb3 : Below w2.heap.size w2 w3 := ⟨hb3.os, hb3.tape, hb3.output, hb3.size, hb3.block⟩; have T3 := bs T2 hb3; replace k1 := cell_later hb3 k1; replace k2 := cell_later hb3 k2)
            | (go_at_call 73; refine (columns_any A' ys.length c' _ ?_).mono ?_; (exact hl'); rintro e w4 ⟨rfl, hb4⟩; have hb4 : Below w3.heap.size w3 w4 := ⟨hb4.os, hb4.tape, hb4.output, hb4.size, hb4.block⟩; have T4 := bs T3 hb4; replace k1 := cell_later hb4 k1; replace k2 := cell_later hb4 k2)
          )
        have h3i := H3.out
        go_wp2
        go_ret
        exact ⟨ret_int hp.out.symm, T4⟩
    · have hp := Lib.hid (pairC_no2 (xs := xs) h2)
      go_enter Try.func70, Try.ntmps70
      go_wp2_with fail
      refine (ValidCard_any _ _ _ _ ((ha.a1 _).a1 _) hl).mono ?_; rintro e w1 ⟨rfl, hb1⟩
      have k1 : w1.cell? ⟨w.heap.size, 0, none⟩ = some (.slice A xs.length c) := cell_later hb1 (by simp)
      have k2 : w1.cell? ⟨w.heap.size + 1, 0, none⟩ = some (.slice A' ys.length c') := cell_later hb1 (by simp)
      have T1 : Below w.heap.size w w1 := bs (ba (ba (b0 _) _) _) hb1
      go_wp2_with fail
      refine (ValidCard_any _ _ _ _ (((hb.a1 _).a1 _).up hb1) hl').mono ?_; rintro e w2 ⟨rfl, hb2⟩
      replace k1 := cell_later hb2 k1
      replace k2 := cell_later hb2 k2
      have T2 : Below w.heap.size w w2 := bs T1 hb2
      go_wp2
      go_ret
      exact ⟨ret_int hp.out.symm, T2⟩
  · have hp := Lib.hid (pairC_no1 (ys := ys) h1)
    go_enter Try.func70, Try.ntmps70
    go_wp2_with fail
    refine (ValidCard_any _ _ _ _ ((ha.a1 _).a1 _) hl).mono ?_; rintro e w1 ⟨rfl, hb1⟩
    have k1 : w1.cell? ⟨w.heap.size, 0, none⟩ = some (.slice A xs.length c) := cell_later hb1 (by simp)
    have k2 : w1.cell? ⟨w.heap.size + 1, 0, none⟩ = some (.slice A' ys.length c') := cell_later hb1 (by simp)
    have T1 : Below w.heap.size w w1 := bs (ba (ba (b0 _) _) _) hb1
    go_wp2
    go_ret
    exact ⟨ret_int hp.out.symm, T1⟩

set_option maxRecDepth 100000 in
set_option maxHeartbeats 1000000 in
theorem l06Two_any (p q p' q' : Nat) (A A' : Option Addr) (c c' : Nat) (xs ys : List Int) (w : World) (hp : w.cell? ⟨p, q, none⟩ = some (.slice A xs.length c)) (hp' : w.cell? ⟨p', q', none⟩ = some (.slice A' ys.length c')) (ha : Rd w w.heap.size 1 A xs.length (ints xs)) (hb : Rd w w.heap.size 1 A' ys.length (ints ys)) (hl : xs.length ≤ 1048576) (hl' : ys.length ≤ 1048576) :
    Calls Try.prog 67 #[.pointer (some ⟨p, q, none⟩), .pointer (some ⟨p', q', none⟩)] w fun e w' => e = .returned (.int .i64 (pairC xs ys)) ∧ Below w.heap.size w w' := by
  rcases Bool.eq_false_or_eq_true (cardOk xs) with h1 | h1
  · rcases Bool.eq_false_or_eq_true (cardOk ys) with h2 | h2
    · by_cases h3 : xs.length = ys.length
      · have HP := Lib.hid (pairC_ok h1 h2 h3)
        have H3 := Lib.hid (show (xs.length : Int) = (ys.length : Int) by omega)
        clear h3
        go_enter Try.func67, Try.ntmps67
        go_wp2_with fail
        refine (l02Ok_any _ _ A c xs _ hp ha hl).mono ?_; rintro e w1 ⟨rfl, hb1⟩
        replace hp := cell_later hb1 hp
        replace hp' := cell_later hb1 hp'
        go_wp2_with fail
        refine (l02Ok_any _ _ A' c' ys _ hp' (hb.up hb1) hl').mono ?_; rintro e w2 ⟨rfl, hb2⟩
        replace hp := cell_later hb2 hp
        replace hp' := cell_later hb2 hp'
        have T2 : Below w.heap.size w w2 := bs hb1 hb2
        have hc := Lib.hid (HP.out)
        clear ha hb
        go_wp2_with fail
        have h3i := H3.out
        go_quiet (fail)
        go_wp2
        go_ret
        exact ⟨ret_int hc.out.symm, below_drewN T2 _⟩
      · have HP := Lib.hid (pairC_two h1 h2 h3)
        have H3 := Lib.hid (show ¬ (xs.length : Int) = (ys.length : Int) by omega)
        clear h3
        go_enter Try.func67, Try.ntmps67
        go_wp2_with fail
        refine (l02Ok_any _ _ A c xs _ hp ha hl).mono ?_; rintro e w1 ⟨rfl, hb1⟩
        replace hp := cell_later hb1 hp
        replace hp' := cell_later hb1 hp'
        go_wp2_with fail
        refine (l02Ok_any _ _ A' c' ys _ hp' (hb.up hb1) hl').mono ?_; rintro e w2 ⟨rfl, hb2⟩
        replace hp := cell_later hb2 hp
        replace hp' := cell_later hb2 hp'
        have T2 : Below w.heap.size w w2 := bs hb1 hb2
        have hc := Lib.hid (HP.out)
        clear ha hb
        go_wp2_with fail
        have h3i := H3.out
        go_quiet (fail)
        go_wp2
        go_ret
        exact ⟨ret_int hc.out.symm, below_drewN T2 _⟩
    · have hc := Lib.hid (pairC_no2 (xs := xs) h2)
      go_enter Try.func67, Try.ntmps67
      go_wp2_with fail
      refine (l02Ok_any _ _ A c xs _ hp ha hl).mono ?_; rintro e w1 ⟨rfl, hb1⟩
      replace hp := cell_later hb1 hp
      replace hp' := cell_later hb1 hp'
      go_wp2_with fail
      refine (l02Ok_any _ _ A' c' ys _ hp' (hb.up hb1) hl').mono ?_; rintro e w2 ⟨rfl, hb2⟩
      replace hp := cell_later hb2 hp
      replace hp' := cell_later hb2 hp'
      have T2 : Below w.heap.size w w2 := bs hb1 hb2
      go_wp2
      go_ret
      exact ⟨ret_int hc.out.symm, T2⟩
  · have hc := Lib.hid (pairC_no1 (ys := ys) h1)
    go_enter Try.func67, Try.ntmps67
    go_wp2_with fail
    refine (l02Ok_any _ _ A c xs _ hp ha hl).mono ?_; rintro e w1 ⟨rfl, hb1⟩
    replace hp := cell_later hb1 hp
    replace hp' := cell_later hb1 hp'
    go_wp2
    go_ret
    exact ⟨ret_int hc.out.symm, hb1⟩
end Go.Proofs.Ytlnpkijeondidaa
