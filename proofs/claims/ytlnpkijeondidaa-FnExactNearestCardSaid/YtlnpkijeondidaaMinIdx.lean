/- The first least element; slices.Min, slices.Index at int64. -/
import Derived.Test.YtlnpkijeondidaaCards
import Derived.Test.YtlnpkijeondidaaLater
namespace Go.Proofs.Ytlnpkijeondidaa
open Go.RowKit

def bestTo (f : Nat → Int) : Nat → Nat
  | 0 => 0
  | k + 1 => if f k < f (bestTo f k) then k else bestTo f k
theorem bestTo_lt (f : Nat → Int) (k : Nat) (h : 0 < k) : bestTo f k < k := by
  induction k with
  | zero => omega
  | succ k ih =>
    simp only [bestTo]
    split
    · omega
    · by_cases h0 : k = 0
      · subst h0; simp [bestTo]
      · have := ih (by omega); omega
theorem bestTo_min (f : Nat → Int) (k j : Nat) (h : j < k) : f (bestTo f k) ≤ f j := by
  induction k with
  | zero => omega
  | succ k ih =>
    simp only [bestTo]
    by_cases hj : j = k
    · subst hj; split <;> omega
    · have := ih (by omega)
      split <;> omega
theorem bestTo_first (f : Nat → Int) (k j : Nat) (h : j < bestTo f k) : f (bestTo f k) < f j := by
  induction k with
  | zero => simp [bestTo] at h
  | succ k ih =>
    simp only [bestTo] at h ⊢
    split at h
    · rename_i hq
      rw [if_pos hq]
      have := bestTo_min f k j (by omega)
      omega
    · rename_i hq
      rw [if_neg hq]
      exact ih h
theorem bestTo_yes {f : Nat → Int} {k : Nat} (h : f k < f (bestTo f k)) : bestTo f (k + 1) = k := by simp only [bestTo, if_pos h]
theorem bestTo_no {f : Nat → Int} {k : Nat} (h : ¬ f k < f (bestTo f k)) : bestTo f (k + 1) = bestTo f k := by simp only [bestTo, if_neg h]
theorem bestTo_congr {f g : Nat → Int} {n : Nat} (h : ∀ k, k < n → f k = g k) : ∀ k, k ≤ n → bestTo f k = bestTo g k := by
  intro k
  induction k with
  | zero => intro _; rfl
  | succ k ih =>
    intro hk
    have e := ih (by omega)
    have hb : k = 0 ∨ bestTo g k < k := by
      by_cases h0 : k = 0
      · exact .inl h0
      · exact .inr (bestTo_lt g k (by omega))
    have hb' : bestTo g k < n := by
      rcases hb with h0 | h0
      · subst h0; simp [bestTo]; omega
      · omega
    simp only [bestTo, e, h k (by omega), h _ hb']
def atI (xs : List Int) (k : Nat) : Int := xs.getD k 0
theorem atI_get {xs : List Int} {k : Nat} (h : k < xs.length) : atI xs k = xs[k] := by simp [atI, List.getD, List.getElem?_eq_getElem h]

set_option maxHeartbeats 1000000 in
theorem MinInts_any (A : Option Addr) (c : Nat) (xs : List Int) (w : World) (ha : Rd w w.heap.size 1 A xs.length (ints xs)) (h1 : 1 ≤ xs.length) (hl : xs.length ≤ 1048576) :
    Calls Try.prog 94 #[.slice A xs.length c] w fun e w' => e = .returned (.int .i64 (atI xs (bestTo (atI xs) xs.length))) ∧ w = w' := by
  obtain ⟨b, off, rfl, _, hc⟩ := ha.at_ (k := 0) (by omega)
  have h0 := hc 0 _ (ints_get xs 0 (by omega))
  rw [Nat.add_zero] at h0
  have e0 : ¬ (xs.length : Int) < 1 := by omega
  have i0 : (0 : Int) < (xs.length : Int) := by omega
  have HA0 := Lib.hid (atI_get (xs := xs) (k := 0) (by omega))
  go_enter Try.func94, Try.ntmps94
  go_wp2
  go_loop [3, 4] (fun m i => ∃ k : Nat, 1 ≤ k ∧ k ≤ xs.length ∧ i = .int .i64 k ∧ m = .int .i64 (atI xs (bestTo (atI xs) k))) (fun _ i => xs.length - (intOf i).toNat)
  case atStart => exact ⟨1, by omega, by omega, rfl, by simp only [bestTo, Int.lt_irrefl, if_false]; rw [HA0.out]⟩
  case round =>
    obtain ⟨k, hk1, hk, rfl, rfl⟩ := hrel
    by_cases hlt : k < xs.length
    · have h2 := hc k _ (ints_get xs k hlt)
      have HA := Lib.hid (atI_get hlt)
      by_cases hq : xs[k] < atI xs (bestTo (atI xs) k)
      · have HB := Lib.hid (bestTo_yes (f := atI xs) (k := k) (by rw [HA.out]; exact hq))
        have hle : ¬ atI xs (bestTo (atI xs) k) ≤ xs[k] := by omega
        have hmin : min (atI xs (bestTo (atI xs) k)) xs[k] = xs[k] := by omega
        clear hc
        go_wp2
        go_round
        case rel => exact ⟨k + 1, by omega, by omega, by go_num, by rw [HB.out, HA.out]⟩
        case measure => simp [intOf]; omega
      · have HB := Lib.hid (bestTo_no (f := atI xs) (k := k) (by rw [HA.out]; exact hq))
        have hle : atI xs (bestTo (atI xs) k) ≤ xs[k] := by omega
        have hmin : min (atI xs (bestTo (atI xs) k)) xs[k] = atI xs (bestTo (atI xs) k) := by omega
        clear hc
        go_wp2
        go_round
        case rel => exact ⟨k + 1, by omega, by omega, by go_num, by rw [HB.out]⟩
        case measure => simp [intOf]; omega
    · obtain rfl : k = xs.length := by omega
      go_wp2
      go_ret
      exact ⟨rfl, rfl⟩

theorem IndexInts_any (A : Option Addr) (c : Nat) (xs : List Int) (v : Int) (w : World) (ha : Rd w w.heap.size 1 A xs.length (ints xs)) (hl : xs.length ≤ 1048576) :
    Calls Try.prog 95 #[.slice A xs.length c, .int .i64 v] w fun e w' => e = .returned (.int .i64 (idxP (fun x => v == x) xs)) ∧ w = w' := by
  go_enter Try.func95, Try.ntmps95
  go_wp2
  go_loop [5, 8] (fun _ i => ∃ k : Nat, k ≤ xs.length ∧ i = .int .i64 k ∧ (xs.take k).any (fun x => v == x) = false) (fun _ i => xs.length - (intOf i).toNat)
  case atStart => exact ⟨0, Nat.zero_le _, rfl, rfl⟩
  case round =>
    obtain ⟨k, hk, rfl, hno⟩ := hrel
    have HNO := Lib.hid hno
    clear hno
    by_cases hlt : k < xs.length
    · obtain ⟨b, off, rfl, _, hc⟩ := ha.at_ hlt
      have h1 := hc k _ (ints_get xs k hlt)
      clear hc ha
      by_cases hq : v = xs[k]
      · have HP := Lib.hid (idxP_some (p := fun x => v == x) hlt HNO.out (by simpa using hq))
        have e1 := beq_t hq
        clear hq
        go_wp2
        go_ret
        exact ⟨ret_int (by rw [HP.out]), rfl⟩
      · have HP := Lib.hid (any_take_succ (p := fun x => v == x) hlt HNO.out (by simpa using hq))
        have e1 := beq_f hq
        clear hq
        go_wp2
        go_round
        case rel => exact ⟨k + 1, by omega, by go_num, HP.out⟩
        case measure => simp [intOf]; omega
    · have HP := Lib.hid (idxP_none (p := fun x => v == x) (any_take_all hlt HNO.out))
      go_wp2
      go_ret
      exact ⟨ret_int (by rw [HP.out]), rfl⟩
/-- The first place of the least element. -/
theorem idx_best {xs : List Int} (h : 1 ≤ xs.length) : idxP (fun x => atI xs (bestTo (atI xs) xs.length) == x) xs = (bestTo (atI xs) xs.length : Nat) := by
  have hb := bestTo_lt (atI xs) xs.length (by omega)
  refine idxP_some hb ?_ ?_
  · rw [List.any_eq_false]
    intro x hx
    obtain ⟨j, hj, rfl⟩ := List.mem_take_iff_getElem.1 hx
    have h1 := bestTo_first (atI xs) xs.length j (by omega)
    rw [atI_get (k := j) (by omega)] at h1
    simp
    omega
  · rw [atI_get hb]
    simp
end Go.Proofs.Ytlnpkijeondidaa
