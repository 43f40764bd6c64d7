/- Two cards at a time: their code, in the program and in the reference. The distance of two cards; in the program and in the reference. The first least element; slices.Min, slices.Index at int64. NearestCard; in the program and in the reference. AddedHoles and LostHoles in the program and in the reference. DistanceOf, and equal columns; in the program and in the reference. -/
import Derived.Test.YtkmejkeanmjfbaaGreatDoorKd5
import Derived.Deep.RegionHeld3
import Derived.Test.YtkmejkeanmjfbaaGreatDoorKd3
import Derived.Test.YtkmejkeanmjfbaaGreatDoorKd7
import Derived.Test.YtkmejkeanmjfbaaGreatDoorKd8
/-! ### NearAll -/
/-! ### Two cards at a time: their code, in the program and in the reference. -/
namespace Go.Proofs.YtkmejkeanmjfbaaGreatDoor
open Go.RowKit

def pairC (xs ys : List Int) : Int := if cardOk xs = true ∧ cardOk ys = true then (if xs.length = ys.length then 0 else 2) else 1
theorem pairC_no1 {xs ys : List Int} (h : cardOk xs = false) : pairC xs ys = 1 := by unfold pairC; rw [if_neg (by simp [h])]
theorem pairC_no2 {xs ys : List Int} (h : cardOk ys = false) : pairC xs ys = 1 := by unfold pairC; rw [if_neg (by simp [h])]
theorem pairC_two {xs ys : List Int} (h1 : cardOk xs = true) (h2 : cardOk ys = true) (h : ¬ xs.length = ys.length) : pairC xs ys = 2 := by unfold pairC; rw [if_pos ⟨h1, h2⟩, if_neg h]
theorem pairC_ok {xs ys : List Int} (h1 : cardOk xs = true) (h2 : cardOk ys = true) (h : xs.length = ys.length) : pairC xs ys = 0 := by unfold pairC; rw [if_pos ⟨h1, h2⟩, if_pos h]
theorem pairC_zero {xs ys : List Int} (h : pairC xs ys = 0) : cardOk xs = true ∧ cardOk ys = true ∧ xs.length = ys.length := by
  unfold pairC at h
  split at h
  · rename_i h1
    split at h
    · rename_i h2
      exact ⟨h1.1, h1.2, h2⟩
    · simp at h
  · simp at h
theorem pairC_cases (xs ys : List Int) : pairC xs ys = 0 ∨ pairC xs ys = 1 ∨ pairC xs ys = 2 := by
  unfold pairC
  split
  · split
    · exact .inl rfl
    · exact .inr (.inr rfl)
  · exact .inr (.inl rfl)
theorem pairC_swap (xs ys : List Int) : pairC xs ys = pairC ys xs := by
  unfold pairC
  by_cases h : cardOk xs = true ∧ cardOk ys = true
  · rw [if_pos h, if_pos h.symm]
    by_cases h2 : xs.length = ys.length
    · rw [if_pos h2, if_pos h2.symm]
    · rw [if_neg h2, if_neg (fun e => h2 e.symm)]
  · rw [if_neg h, if_neg (fun e => h e.symm)]

end Go.Proofs.YtkmejkeanmjfbaaGreatDoor

/-! ### The distance of two cards; in the program and in the reference. -/
namespace Go.Proofs.YtkmejkeanmjfbaaGreatDoor
open Go.RowKit

/-- In how many places the first k columns differ. -/
def distTo (xs ys : List Int) : Nat → Int
  | 0 => 0
  | k + 1 => distTo xs ys k + diffI (xs.getD k 0) (ys.getD k 0)
def distV (xs ys : List Int) : Int := distTo xs ys xs.length
theorem getD_hole {xs : List Int} (h : cardOk xs = true) (k : Nat) : 0 ≤ xs.getD k 0 ∧ xs.getD k 0 ≤ 4095 := by
  by_cases hk : k < xs.length
  · have := cardOk_hole h hk
    simpa [List.getD, List.getElem?_eq_getElem hk] using this
  · simp [List.getD, List.getElem?_eq_none (Nat.le_of_not_lt hk)]
theorem getD_at {xs : List Int} {k : Nat} (hk : k < xs.length) : xs.getD k 0 = xs[k] := by simp [List.getD, List.getElem?_eq_getElem hk]
theorem distTo_range {xs ys : List Int} (h : cardOk xs = true) (h' : cardOk ys = true) (k : Nat) : 0 ≤ distTo xs ys k ∧ distTo xs ys k ≤ 12 * k := by
  induction k with
  | zero => simp [distTo]
  | succ k ih =>
    have h1 := getD_hole h k
    have h2 := getD_hole h' k
    have := diffI_range h1.1 h1.2 h2.1 h2.2
    simp only [distTo]
    omega
theorem distTo_comm {xs ys : List Int} (h : cardOk xs = true) (h' : cardOk ys = true) (k : Nat) : distTo xs ys k = distTo ys xs k := by
  induction k with
  | zero => rfl
  | succ k ih =>
    have h1 := getD_hole h k
    have h2 := getD_hole h' k
    simp only [distTo, ih, diffI_comm h1.1 h1.2 h2.1 h2.2]
theorem distV_range {xs ys : List Int} (h : cardOk xs = true) (h' : cardOk ys = true) : 0 ≤ distV xs ys ∧ distV xs ys ≤ 240 := by
  have := distTo_range h h' xs.length
  have := cardOk_len h
  unfold distV
  omega
theorem distTo_zero {xs ys : List Int} (h : cardOk xs = true) (h' : cardOk ys = true) (k : Nat) : distTo xs ys k = 0 ↔ ∀ j, j < k → xs.getD j 0 = ys.getD j 0 := by
  induction k with
  | zero => simp [distTo]
  | succ k ih =>
    have h1 := getD_hole h k
    have h2 := getD_hole h' k
    have h3 := diffI_range h1.1 h1.2 h2.1 h2.2
    have h4 := distTo_range h h' k
    have h5 := diffI_zero h1.1 h1.2 h2.1 h2.2
    simp only [distTo]
    constructor
    · intro h6 j hj
      rcases Nat.lt_succ_iff_lt_or_eq.1 hj with hj | rfl
      · exact ih.1 (by omega) j hj
      · exact h5.1 (by omega)
    · intro h6
      have h7 := ih.2 fun j hj => h6 j (by omega)
      have h8 := h5.2 (h6 k (by omega))
      omega
theorem distV_zero {xs ys : List Int} (h : cardOk xs = true) (h' : cardOk ys = true) (hl : ys.length = xs.length) : distV xs ys = 0 ↔ xs = ys := by
  unfold distV
  rw [distTo_zero h h']
  constructor
  · intro h1
    apply List.ext_getElem hl.symm
    intro k hk hk'
    have := h1 k hk
    rwa [getD_at hk, getD_at hk'] at this
  · rintro rfl j _
    rfl

end Go.Proofs.YtkmejkeanmjfbaaGreatDoor

/-! ### The first least element; slices.Min, slices.Index at int64. -/
namespace Go.Proofs.YtkmejkeanmjfbaaGreatDoor
open Go.RowKit

def bestTo (f : Nat → Int) : Nat → Nat
  | 0 => 0
  | k + 1 => if f k < f (bestTo f k) then k else bestTo f k
theorem bestTo_lt (f : Nat → Int) (k : Nat) (h : 0 < k) : bestTo f k < k := by
  induction k with
  | zero => omega
  | succ k ih =>
    simp only [bestTo]
    split
    · omega
    · by_cases h0 : k = 0
      · subst h0; simp [bestTo]
      · have := ih (by omega); omega
theorem bestTo_min (f : Nat → Int) (k j : Nat) (h : j < k) : f (bestTo f k) ≤ f j := by
  induction k with
  | zero => omega
  | succ k ih =>
    simp only [bestTo]
    by_cases hj : j = k
    · subst hj; split <;> omega
    · have := ih (by omega)
      split <;> omega
theorem bestTo_first (f : Nat → Int) (k j : Nat) (h : j < bestTo f k) : f (bestTo f k) < f j := by
  induction k with
  | zero => simp [bestTo] at h
  | succ k ih =>
    simp only [bestTo] at h ⊢
    split at h
    · rename_i hq
      rw [if_pos hq]
      have := bestTo_min f k j (by omega)
      omega
    · rename_i hq
      rw [if_neg hq]
      exact ih h
theorem bestTo_yes {f : Nat → Int} {k : Nat} (h : f k < f (bestTo f k)) : bestTo f (k + 1) = k := by simp only [bestTo, if_pos h]
theorem bestTo_no {f : Nat → Int} {k : Nat} (h : ¬ f k < f (bestTo f k)) : bestTo f (k + 1) = bestTo f k := by simp only [bestTo, if_neg h]
theorem bestTo_congr {f g : Nat → Int} {n : Nat} (h : ∀ k, k < n → f k = g k) : ∀ k, k ≤ n → bestTo f k = bestTo g k := by
  intro k
  induction k with
  | zero => intro _; rfl
  | succ k ih =>
    intro hk
    have e := ih (by omega)
    have hb : k = 0 ∨ bestTo g k < k := by
      by_cases h0 : k = 0
      · exact .inl h0
      · exact .inr (bestTo_lt g k (by omega))
    have hb' : bestTo g k < n := by
      rcases hb with h0 | h0
      · subst h0; simp [bestTo]; omega
      · omega
    simp only [bestTo, e, h k (by omega), h _ hb']
def atI (xs : List Int) (k : Nat) : Int := xs.getD k 0
theorem atI_get {xs : List Int} {k : Nat} (h : k < xs.length) : atI xs k = xs[k] := by simp [atI, List.getD, List.getElem?_eq_getElem h]

/-- The first place of the least element. -/
theorem idx_best {xs : List Int} (h : 1 ≤ xs.length) : idxP (fun x => atI xs (bestTo (atI xs) xs.length) == x) xs = (bestTo (atI xs) xs.length : Nat) := by
  have hb := bestTo_lt (atI xs) xs.length (by omega)
  refine idxP_some hb ?_ ?_
  · rw [List.any_eq_false]
    intro x hx
    obtain ⟨j, hj, rfl⟩ := List.mem_take_iff_getElem.1 hx
    have h1 := bestTo_first (atI xs) xs.length j (by omega)
    rw [atI_get (k := j) (by omega)] at h1
    simp
    omega
  · rw [atI_get hb]
    simp
end Go.Proofs.YtkmejkeanmjfbaaGreatDoor

/-! ### NearestCard; in the program and in the reference. -/
namespace Go.Proofs.YtkmejkeanmjfbaaGreatDoor
open Go.RowKit

def nearC (L : List (List Int)) (xs : List Int) : Int := if deckOk L = true ∧ cardOk xs = true then (if L.length = 0 then 3 else if wid0 L = xs.length then 0 else 2) else 1
def dists (L : List (List Int)) (xs : List Int) : List Int := L.map fun x => distV x xs
def nearK (L : List (List Int)) (xs : List Int) : Nat := bestTo (atI (dists L xs)) L.length
def nearA (L : List (List Int)) (xs : List Int) : Int := if nearC L xs = 0 then (nearK L xs : Int) else 0
def nearD (L : List (List Int)) (xs : List Int) : Int := if nearC L xs = 0 then atI (dists L xs) (nearK L xs) else 0
theorem near_bad {L : List (List Int)} {xs : List Int} (h : ¬ nearC L xs = 0) : nearA L xs = 0 ∧ nearD L xs = 0 := by
  unfold nearA nearD
  rw [if_neg h, if_neg h]
  exact ⟨rfl, rfl⟩
theorem near_ok {L : List (List Int)} {xs : List Int} (h : nearC L xs = 0) : nearA L xs = (nearK L xs : Int) ∧ nearD L xs = atI (dists L xs) (nearK L xs) := by
  unfold nearA nearD
  rw [if_pos h, if_pos h]
  exact ⟨rfl, rfl⟩
theorem nearC_1 {L : List (List Int)} {xs : List Int} (h : deckOk L = false) : nearC L xs = 1 := by unfold nearC; rw [if_neg (by simp [h])]
theorem nearC_2 {L : List (List Int)} {xs : List Int} (h : cardOk xs = false) : nearC L xs = 1 := by unfold nearC; rw [if_neg (by simp [h])]
theorem nearC_3 {L : List (List Int)} {xs : List Int} (h : deckOk L = true) (h' : cardOk xs = true) (h0 : L.length = 0) : nearC L xs = 3 := by unfold nearC; rw [if_pos ⟨h, h'⟩, if_pos h0]
theorem nearC_4 {L : List (List Int)} {xs : List Int} (h : deckOk L = true) (h' : cardOk xs = true) (h0 : ¬ L.length = 0) (h1 : ¬ wid0 L = xs.length) : nearC L xs = 2 := by unfold nearC; rw [if_pos ⟨h, h'⟩, if_neg h0, if_neg h1]
theorem nearC_5 {L : List (List Int)} {xs : List Int} (h : deckOk L = true) (h' : cardOk xs = true) (h0 : ¬ L.length = 0) (h1 : wid0 L = xs.length) : nearC L xs = 0 := by unfold nearC; rw [if_pos ⟨h, h'⟩, if_neg h0, if_pos h1]
theorem dists_length (L : List (List Int)) (xs : List Int) : (dists L xs).length = L.length := by simp [dists]
theorem dists_at {hs : List Hd} {xs : List Int} {k : Nat} (h : k < hs.length) : atI (dists (cards hs) xs) k = distV hs[k].xs xs := by
  rw [atI_get (by rw [dists_length, cards_length]; exact h)]
  simp [dists, cards]
theorem dists_snoc {hs : List Hd} {xs : List Int} {k : Nat} (h : k < hs.length) : (dists (cards hs) xs).take (k + 1) = (dists (cards hs) xs).take k ++ [distV hs[k].xs xs] := by
  rw [List.take_succ_eq_append_getElem (by rw [dists_length, cards_length]; exact h)]
  simp [dists, cards]
theorem ret_iii {a b c a' b' c' : Int} (h1 : a = a') (h2 : b = b') (h3 : c = c') : Ending.returned (.tuple #[.int .i64 a, .int .i64 b, .int .i64 c]) = .returned (.tuple #[.int .i64 a', .int .i64 b', .int .i64 c']) := by rw [h1, h2, h3]

end Go.Proofs.YtkmejkeanmjfbaaGreatDoor

/-! ### Holes -/
namespace Go.Proofs.YtkmejkeanmjfbaaGreatDoor
open Go.RowKit

def moreAt (xs ys : List Int) (k : Nat) : Bool := bits .andNot .i64 (xs.getD k 0) (ys.getD k 0) != 0
def addedRes (xs ys : List Int) : List Int := if pairC xs ys = 0 then colsWhere (moreAt ys xs) xs.length else []
def lostRes (xs ys : List Int) : List Int := if pairC xs ys = 0 then colsWhere (moreAt xs ys) xs.length else []
theorem addedRes_swap (xs ys : List Int) : addedRes ys xs = lostRes xs ys := by
  unfold addedRes lostRes
  rw [pairC_swap ys xs]
  by_cases h : pairC xs ys = 0
  · rw [if_pos h, if_pos h, (pairC_zero h).2.2]
  · rw [if_neg h, if_neg h]
theorem addedRes_length (xs ys : List Int) : (addedRes xs ys).length ≤ 20 := by
  unfold addedRes
  split
  · rename_i h
    have h1 := colsWhere_le (moreAt ys xs) xs.length
    have h2 := cardOk_len (pairC_zero h).1
    omega
  · simp
theorem lostRes_length (xs ys : List Int) : (lostRes xs ys).length ≤ 20 := by
  rw [← addedRes_swap]
  exact addedRes_length ys xs

end Go.Proofs.YtkmejkeanmjfbaaGreatDoor

/-! ### DistLaw -/
namespace Go.Proofs.YtkmejkeanmjfbaaGreatDoor
open Go.RowKit

def distRes (xs ys : List Int) : Int := if pairC xs ys = 0 then distV xs ys else 0
theorem ret_ii {a b c d : Int} (h : a = b) (k : c = d) : Ending.returned (.tuple #[.int .i64 a, .int .i64 c]) = .returned (.tuple #[.int .i64 b, .int .i64 d]) := by rw [h, k]

end Go.Proofs.YtkmejkeanmjfbaaGreatDoor
