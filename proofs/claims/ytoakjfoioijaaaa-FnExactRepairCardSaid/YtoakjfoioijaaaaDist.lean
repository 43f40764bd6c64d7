/- The distance of two cards; in the program and in the reference. -/
import Derived.Test.YtoakjfoioijaaaaPair
import Derived.Test.YtoakjfoioijaaaaOnes
namespace Go.Proofs.Ytoakjfoioijaaaa
open Go.RowKit

/-- In how many places the first k columns differ. -/
def distTo (xs ys : List Int) : Nat → Int
  | 0 => 0
  | k + 1 => distTo xs ys k + diffI (xs.getD k 0) (ys.getD k 0)
def distV (xs ys : List Int) : Int := distTo xs ys xs.length
theorem getD_hole {xs : List Int} (h : cardOk xs = true) (k : Nat) : 0 ≤ xs.getD k 0 ∧ xs.getD k 0 ≤ 4095 := by
  by_cases hk : k < xs.length
  · have := cardOk_hole h hk
    simpa [List.getD, List.getElem?_eq_getElem hk] using this
  · simp [List.getD, List.getElem?_eq_none (Nat.le_of_not_lt hk)]
theorem getD_at {xs : List Int} {k : Nat} (hk : k < xs.length) : xs.getD k 0 = xs[k] := by simp [List.getD, List.getElem?_eq_getElem hk]
theorem distTo_range {xs ys : List Int} (h : cardOk xs = true) (h' : cardOk ys = true) (k : Nat) : 0 ≤ distTo xs ys k ∧ distTo xs ys k ≤ 12 * k := by
  induction k with
  | zero => simp [distTo]
  | succ k ih =>
    have h1 := getD_hole h k
    have h2 := getD_hole h' k
    have := diffI_range h1.1 h1.2 h2.1 h2.2
    simp only [distTo]
    omega
theorem distTo_comm {xs ys : List Int} (h : cardOk xs = true) (h' : cardOk ys = true) (k : Nat) : distTo xs ys k = distTo ys xs k := by
  induction k with
  | zero => rfl
  | succ k ih =>
    have h1 := getD_hole h k
    have h2 := getD_hole h' k
    simp only [distTo, ih, diffI_comm h1.1 h1.2 h2.1 h2.2]
theorem distV_range {xs ys : List Int} (h : cardOk xs = true) (h' : cardOk ys = true) : 0 ≤ distV xs ys ∧ distV xs ys ≤ 240 := by
  have := distTo_range h h' xs.length
  have := cardOk_len h
  unfold distV
  omega
theorem distTo_zero {xs ys : List Int} (h : cardOk xs = true) (h' : cardOk ys = true) (k : Nat) : distTo xs ys k = 0 ↔ ∀ j, j < k → xs.getD j 0 = ys.getD j 0 := by
  induction k with
  | zero => simp [distTo]
  | succ k ih =>
    have h1 := getD_hole h k
    have h2 := getD_hole h' k
    have h3 := diffI_range h1.1 h1.2 h2.1 h2.2
    have h4 := distTo_range h h' k
    have h5 := diffI_zero h1.1 h1.2 h2.1 h2.2
    simp only [distTo]
    constructor
    · intro h6 j hj
      rcases Nat.lt_succ_iff_lt_or_eq.1 hj with hj | rfl
      · exact ih.1 (by omega) j hj
      · exact h5.1 (by omega)
    · intro h6
      have h7 := ih.2 fun j hj => h6 j (by omega)
      have h8 := h5.2 (h6 k (by omega))
      omega
theorem distV_zero {xs ys : List Int} (h : cardOk xs = true) (h' : cardOk ys = true) (hl : ys.length = xs.length) : distV xs ys = 0 ↔ xs = ys := by
  unfold distV
  rw [distTo_zero h h']
  constructor
  · intro h1
    apply List.ext_getElem hl.symm
    intro k hk hk'
    have := h1 k hk
    rwa [getD_at hk, getD_at hk'] at this
  · rintro rfl j _
    rfl

set_option maxHeartbeats 1000000 in
theorem distanceOf_any (A A' : Option Addr) (c c' : Nat) (xs ys : List Int) (w : World) (ha : Rd w w.heap.size 1 A xs.length (ints xs)) (hb : Rd w w.heap.size 1 A' ys.length (ints ys)) (hx : cardOk xs = true) (hy : cardOk ys = true) (he : ys.length = xs.length) :
    Calls Try.prog 79 #[.agg #[.slice A xs.length c], .agg #[.slice A' ys.length c']] w fun e w' => e = .returned (.int .i64 (distV xs ys)) ∧ Below w.heap.size w w' := by
  have hl := (cardOk_len hx).2
  have ha2 := (ha.a1 (.cells #[.slice A xs.length c] 28)).a1 (.cells #[.slice A' ys.length c'] 28)
  have hb2 := (hb.a1 (.cells #[.slice A xs.length c] 28)).a1 (.cells #[.slice A' ys.length c'] 28)
  have HE := Lib.hid he
  clear ha hb he
  go_enter Try.func79, Try.ntmps79
  go_wp2
  go_loop [5, 6, 7, 11] (fun s u v i => ∃ k : Nat, k ≤ xs.length ∧ i = .int .i64 k ∧ s = .int .i64 (distTo xs ys k)) (fun _ _ _ i => xs.length - (intOf i).toNat)
  case atStart => exact ⟨0, Nat.zero_le _, rfl, rfl⟩
  case round =>
    obtain ⟨k, hk, rfl, rfl⟩ := hrel
    by_cases hlt : k < xs.length
    · have hlt' : k < ys.length := by have := HE.out; omega
      obtain ⟨b, off, rfl, _, hc⟩ := ha2.at_ hlt
      obtain ⟨b', off', rfl, _, hc'⟩ := hb2.at_ hlt'
      have h1 := hc k _ (ints_get xs k hlt)
      have h2 := hc' k _ (ints_get ys k hlt')
      have g1 := cardOk_hole hx hlt
      have g2 := cardOk_hole hy hlt'
      have gx := xor12_range g1.1 g1.2 g2.1 g2.2
      have gd := diffI_range g1.1 g1.2 g2.1 g2.2
      have gt := distTo_range hx hy k
      have gp : 0 ≤ popI (bits .xor .i64 xs[k] ys[k]) ∧ popI (bits .xor .i64 xs[k] ys[k]) ≤ 12 := gd
      have HS := Lib.hid (show distTo xs ys (k + 1) = distTo xs ys k + popI (bits .xor .i64 xs[k] ys[k]) by simp only [distTo, getD_at hlt, getD_at hlt']; rfl)
      clear hc hc' ha2 hb2 gd
      go_wp2_with fail
      refine (onesOf_int _ gx.1 gx.2 _).mono ?_; rintro e w1 ⟨rfl, rfl⟩
      go_wp2
      go_round
      case rel => exact ⟨k + 1, by omega, by go_num, by rw [HS.out]⟩
      case measure => simp [intOf]; omega
    · obtain rfl : k = xs.length := by omega
      go_wp2
      go_ret
      exact ⟨rfl, ba (ba (b0 _) _) _⟩

theorem distanceOf_n (n : Nat) (A A' : Option Addr) (c c' : Nat) (xs ys : List Int) (w : World) (hn : xs.length = n) (ha : Rd w w.heap.size 1 A n (ints xs)) (hb : Rd w w.heap.size 1 A' ys.length (ints ys)) (hx : cardOk xs = true) (hy : cardOk ys = true) (he : ys.length = n) :
    Calls Try.prog 79 #[.agg #[.slice A n c], .agg #[.slice A' ys.length c']] w fun e w' => e = .returned (.int .i64 (distV xs ys)) ∧ Below w.heap.size w w' := by
  subst hn
  exact distanceOf_any A A' c c' xs ys w ha hb hx hy he
end Go.Proofs.Ytoakjfoioijaaaa
