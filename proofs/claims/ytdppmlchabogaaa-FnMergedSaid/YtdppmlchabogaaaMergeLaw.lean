/- Two sorted decks put together: the merged deck is the deck of both in the order of the field. No walk here. -/
import Derived.Test.YtdppmlchabogaaaSortKey
import Derived.Test.YtdppmlchabogaaaFirst
import Derived.Test.YtdppmlchabogaaaCollate
namespace Go.Proofs.Ytdppmlchabogaaa
open Go.RowKit

theorem getD_left {L M : List (List Int)} {i : Nat} (h : i < L.length) : (L ++ M).getD i [] = L[i] := by
  simp only [List.getD]
  rw [List.getElem?_append_left h, List.getElem?_eq_getElem h]
  rfl
theorem getD_right {L M : List (List Int)} {q : Nat} (h : q < M.length) : (L ++ M).getD (L.length + q) [] = M[q] := by
  simp [List.getD, h]
theorem keyZ_left {L M : List (List Int)} {a b : Int} {i : Nat} (h : i < L.length) : keyZ (L ++ M) a b (i : Int) = keyZ L a b (i : Int) := by
  unfold keyZ
  simp only [Int.toNat_natCast]
  rw [getD_left h]
  simp [List.getD, h]
theorem keyZ_right {L M : List (List Int)} {a b : Int} {q : Nat} (h : q < M.length) : keyZ (L ++ M) a b ((L.length + q : Nat) : Int) = keyZ M a b (q : Int) := by
  unfold keyZ
  simp only [Int.toNat_natCast]
  rw [getD_right h]
  simp [List.getD, h]
theorem steps_key {L : List (List Int)} {i j : Nat} (hok : deckOk L = true) (hij : i < j) (hj : j ≤ deckW L) (hs : (stepsL L (i : Int) (j : Int) L.length).length = 0) :
    ∀ d p, p + d < L.length → ¬ keyZ L (i : Int) (j : Int) ((p + d : Nat) : Int) < keyZ L (i : Int) (j : Int) (p : Int)
  | 0, p, _ => by simp
  | d + 1, p, h => by
    have ih := steps_key hok hij hj hs d p (by omega)
    have h1 : stepsL L (i : Int) (j : Int) L.length = [] := List.eq_nil_of_length_eq_zero hs
    have h2 : ¬ cmpC L (i : Int) (j : Int) (p + (d + 1)) (p + d) < 0 := by
      intro hc
      have hm : ((p + (d + 1) : Nat) : Int) ∈ stepsL L (i : Int) (j : Int) L.length := by
        unfold stepsL
        refine List.mem_map.2 ⟨p + (d + 1), List.mem_filter.2 ⟨List.mem_range.2 h, ?_⟩, rfl⟩
        rw [show p + (d + 1) - 1 = p + d by omega]
        simp only [Bool.and_eq_true, decide_eq_true_eq]
        exact ⟨by omega, hc⟩
      rw [h1] at hm
      cases hm
    rw [(keyZ_cmp hok hij hj h (by omega)).1] at h2
    omega
theorem steps_keys {L : List (List Int)} {i j : Nat} (hok : deckOk L = true) (hij : i < j) (hj : j ≤ deckW L) (hs : (stepsL L (i : Int) (j : Int) L.length).length = 0) {p q : Nat} (hpq : p < q) (hq : q < L.length) : ¬ keyZ L (i : Int) (j : Int) (q : Int) < keyZ L (i : Int) (j : Int) (p : Int) := by
  have := steps_key hok hij hj hs (q - p) p (by omega)
  rwa [show p + (q - p) = q by omega] at this
/-- Have two decks cards of different widths? -/
def clashB (L M : List (List Int)) : Bool := decide (0 < L.length) && decide (0 < M.length) && decide (deckW L ≠ deckW M)
theorem deckOk_append {L M : List (List Int)} (hL : deckOk L = true) (hM : deckOk M = true) (hw : clashB L M = false) (h40 : L.length + M.length ≤ 40) : deckOk (L ++ M) = true ∧ (∀ j, j ≤ deckW L → j ≤ deckW M → j ≤ deckW (L ++ M)) := by
  have key : ∀ x ∈ L ++ M, cardOk x = true ∧ x.length = wid0 (L ++ M) := by
    intro x hx
    cases hl : L with
    | nil =>
      subst hl
      rw [List.nil_append] at hx ⊢
      obtain ⟨k, hk, rfl⟩ := List.mem_iff_getElem.1 hx
      exact deckOk_card hM hk
    | cons y L' =>
      have h0 : 0 < L.length := by rw [hl]; simp
      have e1 : wid0 ((y :: L') ++ M) = wid0 L := by rw [hl]; rfl
      rw [e1]
      rcases List.mem_append.1 hx with hx | hx
      · obtain ⟨k, hk, rfl⟩ := List.mem_iff_getElem.1 hx
        exact deckOk_card hL hk
      · obtain ⟨k, hk, rfl⟩ := List.mem_iff_getElem.1 hx
        obtain ⟨c1, c2⟩ := deckOk_card hM hk
        refine ⟨c1, ?_⟩
        unfold clashB at hw
        have hm : 0 < M.length := by omega
        have : deckW L = deckW M := by
          simpa [h0, hm] using hw
        unfold deckW at this
        rw [if_neg (by omega), if_neg (by omega)] at this
        rw [c2, this]
  constructor
  · unfold deckOk
    rw [Bool.and_eq_true]
    refine ⟨List.all_eq_true.2 fun x hx => ?_, by rw [List.length_append]; exact decide_eq_true h40⟩
    obtain ⟨c1, c2⟩ := key x hx
    unfold deckP
    rw [c1, c2]
    simp
  · intro j h1 h2
    unfold deckW at h1 h2 ⊢
    cases L with
    | nil => simpa using h2
    | cons y L' => rw [if_neg (by simp)]; rw [if_neg (by simp)] at h1; exact h1
def mgeC (L M : List (List Int)) (a b : Int) : Int :=
  if colC [L, M] true [] a b = 0 then (if clashB L M = true then 9 else if (stepsL L a b L.length).length = 0 ∧ (stepsL M a b M.length).length = 0 then (if 40 < L.length + M.length then 5 else 0) else 6) else colC [L, M] true [] a b
def mgeR (L M : List (List Int)) (a b : Int) : List (List Int) := if mgeC L M a b = 0 then sortedL (L ++ M) a b else []
section
variable {L M : List (List Int)} {a b : Int}
theorem mgeC_e (h : colC [L, M] true [] a b ≠ 0) : mgeC L M a b = colC [L, M] true [] a b := by unfold mgeC; rw [if_neg h]
theorem mgeC_9 (h : colC [L, M] true [] a b = 0) (h1 : clashB L M = true) : mgeC L M a b = 9 := by unfold mgeC; rw [if_pos h, if_pos h1]
theorem mgeC_6 (h : colC [L, M] true [] a b = 0) (h1 : clashB L M = false) (h2 : ¬ ((stepsL L a b L.length).length = 0 ∧ (stepsL M a b M.length).length = 0)) : mgeC L M a b = 6 := by unfold mgeC; rw [if_pos h, if_neg (by simp [h1]), if_neg h2]
theorem mgeC_5 (h : colC [L, M] true [] a b = 0) (h1 : clashB L M = false) (h2 : (stepsL L a b L.length).length = 0 ∧ (stepsL M a b M.length).length = 0) (h3 : 40 < L.length + M.length) : mgeC L M a b = 5 := by unfold mgeC; rw [if_pos h, if_neg (by simp [h1]), if_pos h2, if_pos h3]
theorem mgeC_0 (h : colC [L, M] true [] a b = 0) (h1 : clashB L M = false) (h2 : (stepsL L a b L.length).length = 0 ∧ (stepsL M a b M.length).length = 0) (h3 : ¬ 40 < L.length + M.length) : mgeC L M a b = 0 := by unfold mgeC; rw [if_pos h, if_neg (by simp [h1]), if_pos h2, if_neg h3]
theorem mgeR_0 (h : mgeC L M a b = 0) : mgeR L M a b = sortedL (L ++ M) a b := by unfold mgeR; rw [if_pos h]
theorem mgeR_1 (h : mgeC L M a b ≠ 0) : mgeR L M a b = [] := by unfold mgeR; rw [if_neg h]
/-- The merged deck. -/
theorem merge_sorts {i j : Nat} (hL : deckOk L = true) (hM : deckOk M = true) (hij : i < j) (hj : j ≤ deckW L) (hj' : j ≤ deckW M) (hs : (stepsL L (i : Int) (j : Int) L.length).length = 0) (hs' : (stepsL M (i : Int) (j : Int) M.length).length = 0) :
    pickL (L ++ M) (mgF (keyZ (L ++ M) (i : Int) (j : Int)) L.length M.length) = sortedL (L ++ M) (i : Int) (j : Int) := by
  rw [mgF_places]
  · unfold sortedL ordL
    rw [List.length_append]
    rfl
  · intro p q hpq hq
    rw [keyZ_left (show p < L.length by omega), keyZ_left hq]
    exact steps_keys hL hij hj hs hpq hq
  · intro p q hpq hq
    rw [keyZ_right (show p < M.length by omega), keyZ_right hq]
    exact steps_keys hM hij hj' hs' hpq hq
end
theorem pickL_append (L : List (List Int)) (x y : List Int) : pickL L (x ++ y) = pickL L x ++ pickL L y := by simp [pickL]
theorem pick_seg (L M : List (List Int)) {x y : Nat} (hy : y ≤ M.length) : pickL (L ++ M) (seg L.length x y) = (M.drop x).take (y - x) := by
  apply List.ext_getElem?
  intro k
  unfold pickL seg
  rw [List.map_map, List.getElem?_map, List.getElem?_take]
  by_cases h : k < y - x
  · rw [if_pos h, List.getElem?_range' h, List.getElem?_drop, List.getElem?_eq_getElem (show x + k < M.length by omega)]
    simp only [Option.map_some, Function.comp, Nat.one_mul, Int.toNat_natCast]
    rw [getD_right (show x + k < M.length by omega)]
  · rw [if_neg h, List.getElem?_eq_none (by simp; omega)]
    rfl
theorem mgeR_bound (L M : List (List Int)) (a b : Int) {gs : List Hd} (h : cards gs = mgeR L M a b) (hb : mgeC L M a b = 0 → deckOk (L ++ M) = true) : gs.length + tot gs ≤ 840 := by
  by_cases hz : mgeC L M a b = 0
  · rw [mgeR_0 hz] at h
    refine sub_bound (fun x hx => (sortedL_perm (L ++ M) a b).mem_iff.1 hx) ?_ (hb hz) h
    rw [sortedL_length]
    exact deckOk_len (hb hz)
  · rw [mgeR_1 hz] at h
    have : gs = [] := by
      cases gs with
      | nil => rfl
      | cons x gs => simp [cards] at h
    subst this
    simp [tot]
end Go.Proofs.Ytdppmlchabogaaa
