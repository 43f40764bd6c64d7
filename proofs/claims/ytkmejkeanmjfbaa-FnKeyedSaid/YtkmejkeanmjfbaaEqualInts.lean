/- Equal columns: slices.Equal, SameCard; l00Same. -/
import Derived.Test.YtkmejkeanmjfbaaCardFns
namespace Go.Proofs.Ytkmejkeanmjfbaa
open Go.RowKit

theorem eq_take_succ {xs ys : List Int} {k : Nat} (h : xs.take k = ys.take k) (hx : k < xs.length) (hy : k < ys.length) (he : xs[k] = ys[k]) : xs.take (k + 1) = ys.take (k + 1) := by
  rw [List.take_succ_eq_append_getElem hx, List.take_succ_eq_append_getElem hy, h, he]

set_option maxHeartbeats 1000000 in
theorem EqualInts_any (A A' : Option Addr) (c c' : Nat) (xs ys : List Int) (w : World) (ha : Rd w w.heap.size 1 A xs.length (ints xs)) (hb : Rd w w.heap.size 1 A' ys.length (ints ys)) (hl : xs.length ≤ 1048576) (hl' : ys.length ≤ 1048576) :
    Calls Try.prog 66 #[.slice A xs.length c, .slice A' ys.length c'] w fun e w' => e = .returned (.bool (decide (xs = ys))) ∧ Below w.heap.size w w' := by
  by_cases he : ys.length = xs.length
  · have HE := Lib.hid he
    rw [he]
    clear he
    go_enter Try.func66, Try.ntmps66
    go_wp2
    go_loopw [5, 13] (fun _ i wr => ∃ k : Nat, k ≤ xs.length ∧ i = .int .i64 k ∧ xs.take k = ys.take k ∧ Below w.heap.size w wr) (fun _ i _ => xs.length - (intOf i).toNat)
    case atStart => exact ⟨0, Nat.zero_le _, rfl, rfl, b0 _⟩
    case round =>
      obtain ⟨k, hk, rfl, htk, hbw⟩ := hrel
      have HT := Lib.hid htk
      clear htk
      by_cases hlt : k < xs.length
      · have hlt' : k < ys.length := by have := HE.out; omega
        obtain ⟨b, off, rfl, _, hc⟩ := (ha.up hbw).at_ hlt
        obtain ⟨b', off', rfl, _, hc'⟩ := (hb.up hbw).at_ hlt'
        have h1 := hc k _ (ints_get xs k hlt)
        have h2 := hc' k _ (ints_get ys k hlt')
        have i1 : (k : Int) < (ys.length : Int) := by omega
        clear hc hc' ha hb
        by_cases hq : xs[k] = ys[k]
        · have HN := Lib.hid (eq_take_succ HT.out hlt hlt' hq)
          have hn : (xs[k] == ys[k]) = true := by simpa using hq
          have hn' : (xs[k] != ys[k]) = false := by simpa using hq
          clear hq
          go_wp2_with fail
          go_quiet (fail)
          go_wp2
          go_roundw
          case rel => exact ⟨k + 1, by omega, by go_num, HN.out, below_drewN hbw _⟩
          case measure => simp [intOf]; omega
        · have HN := Lib.hid (show decide (xs = ys) = false by
            rw [decide_eq_false_iff_not]
            rintro rfl
            exact hq rfl)
          have hn : (xs[k] == ys[k]) = false := by simpa using hq
          have hn' : (xs[k] != ys[k]) = true := by simpa using hq
          clear hq
          go_wp2_with fail
          go_quiet (fail)
          go_wp2
          go_ret
          exact ⟨ret_bool HN.out.symm, below_drewN hbw _⟩
      · obtain rfl : k = xs.length := by omega
        have HN := Lib.hid (show decide (xs = ys) = true by
          have := HT.out
          have h2 := HE.out
          rw [List.take_length, ← h2, List.take_length] at this
          simpa using this)
        go_wp2
        go_ret
        exact ⟨ret_bool HN.out.symm, hbw⟩
  · have HN := Lib.hid (show decide (xs = ys) = false by
      rw [decide_eq_false_iff_not]
      rintro rfl
      exact he rfl)
    have h1 : ((xs.length : Int) == (ys.length : Int)) = false := by simp; omega
    have h2 : ((xs.length : Int) != (ys.length : Int)) = true := by simp; omega
    have h3 : ¬ (xs.length : Int) = (ys.length : Int) := by omega
    have h4 : ¬ xs.length = ys.length := by omega
    clear he
    go_enter Try.func66, Try.ntmps66
    go_wp2
    go_ret
    exact ⟨ret_bool HN.out.symm, b0 _⟩

theorem SameCard_any (A A' : Option Addr) (c c' : Nat) (xs ys : List Int) (w : World) (ha : Rd w w.heap.size 1 A xs.length (ints xs)) (hb : Rd w w.heap.size 1 A' ys.length (ints ys)) (hl : xs.length ≤ 1048576) (hl' : ys.length ≤ 1048576) :
    Calls Try.prog 35 #[.agg #[.slice A xs.length c], .agg #[.slice A' ys.length c']] w fun e w' => e = .returned (.bool (decide (xs = ys))) ∧ Below w.heap.size w w' := by
  have ha2 := (ha.a1 (.cells #[.slice A xs.length c] 26)).a1 (.cells #[.slice A' ys.length c'] 26)
  have hb2 := (hb.a1 (.cells #[.slice A xs.length c] 26)).a1 (.cells #[.slice A' ys.length c'] 26)
  go_enter Try.func35, Try.ntmps35
  go_wp2_with fail
  refine (EqualInts_any _ _ _ _ xs ys _ ha2 hb2 hl hl').mono ?_; rintro e w1 ⟨rfl, hb1⟩
  go_wp2
  go_ret
  exact ⟨rfl, bs (ba (ba (b0 _) _) _) hb1⟩
theorem SameCard_n (n m : Nat) (A A' : Option Addr) (c c' : Nat) (xs ys : List Int) (w : World) (hn : xs.length = n) (hm : ys.length = m) (ha : Rd w w.heap.size 1 A n (ints xs)) (hb : Rd w w.heap.size 1 A' m (ints ys)) (hl : n ≤ 1048576) (hl' : m ≤ 1048576) :
    Calls Try.prog 35 #[.agg #[.slice A n c], .agg #[.slice A' m c']] w fun e w' => e = .returned (.bool (decide (xs = ys))) ∧ Below w.heap.size w w' := by
  subst hn
  subst hm
  exact SameCard_any A A' c c' xs ys w ha hb hl hl'
end Go.Proofs.Ytkmejkeanmjfbaa
