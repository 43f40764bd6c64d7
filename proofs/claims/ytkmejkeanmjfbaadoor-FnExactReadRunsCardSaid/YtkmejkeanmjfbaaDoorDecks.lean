/- Decks: validity, columns, copies; in the program and in the reference. -/
import Derived.Test.YtkmejkeanmjfbaaDoorCardFns
import Derived.Test.YtkmejkeanmjfbaaDoorDecks2
import Derived.Test.YtkmejkeanmjfbaaDoorLater
namespace Go.Proofs.YtkmejkeanmjfbaaDoor
open Go.RowKit

def deckP (n : Nat) (x : List Int) : Bool := cardOk x && (x.length == n)
def wid0 (L : List (List Int)) : Nat := (L.headD []).length
def deckOk (L : List (List Int)) : Bool := L.all (deckP (wid0 L)) && decide (L.length ≤ 40)
/-- The columns of a deck's cards; 20 without cards. -/
def deckW (L : List (List Int)) : Nat := if L.length = 0 then 20 else wid0 L
theorem deckOk_len {L : List (List Int)} (h : deckOk L = true) : L.length ≤ 40 := by
  simp only [deckOk, Bool.and_eq_true, decide_eq_true_eq] at h
  exact h.2
theorem deckOk_card {L : List (List Int)} (h : deckOk L = true) {k : Nat} (hk : k < L.length) : cardOk L[k] = true ∧ L[k].length = wid0 L := by
  simp only [deckOk, Bool.and_eq_true] at h
  have := List.all_eq_true.1 h.1 _ (List.getElem_mem hk)
  simpa [deckP] using this
theorem deckOk_wid {L : List (List Int)} (h : deckOk L = true) : deckW L ≤ 20 ∧ 1 ≤ deckW L := by
  unfold deckW
  split
  · omega
  · rename_i h0
    have h1 := deckOk_card h (k := 0) (by omega)
    have := cardOk_len h1.1
    omega
theorem one_slice (B : Option Addr) (n d : Nat) : ∀ u ∈ (#[Value.slice B n d] : Array Value).toList, u.oneCell' = true := by
  intro u hu
  simp at hu
  subst hu
  rfl
theorem wid0_cards {hs : List Hd} (h : 0 < hs.length) : wid0 (cards hs) = hs[0].xs.length := by
  cases hs with
  | nil => simp at h
  | cons x hs => rfl
theorem deckOk_hd {hs : List Hd} (h : deckOk (cards hs) = true) {k : Nat} (hk : k < hs.length) : cardOk hs[k].xs = true ∧ hs[k].xs.length = wid0 (cards hs) := by
  have := deckOk_card h (k := k) (by rw [cards_length]; exact hk)
  simpa [cards] using this
/-- The first k cards are good ones. -/
def goodTo (hs : List Hd) (k : Nat) : Prop := ((cards hs).take k).any (fun x => !deckP (wid0 (cards hs)) x) = false
theorem goodTo_zero (hs : List Hd) : goodTo hs 0 := by simp [goodTo]
theorem goodTo_succ {hs : List Hd} {k : Nat} (h : goodTo hs k) (hk : k < hs.length) (h1 : cardOk hs[k].xs = true) (h2 : hs[k].xs.length = wid0 (cards hs)) : goodTo hs (k + 1) := by
  refine any_take_succ (by rw [cards_length]; exact hk) h ?_
  rw [cards_at]
  simp [deckP, h1, h2]
theorem deckOk_bad {hs : List Hd} {k : Nat} (hk : k < hs.length) (h : ¬ (cardOk hs[k].xs = true ∧ hs[k].xs.length = wid0 (cards hs))) : deckOk (cards hs) = false := by
  cases hd : deckOk (cards hs) with
  | false => rfl
  | true => exact absurd (deckOk_hd hd hk) h
theorem deckOk_end {hs : List Hd} (h : goodTo hs hs.length) : deckOk (cards hs) = decide (hs.length ≤ 40) := by
  unfold goodTo at h
  rw [List.take_of_length_le (by rw [cards_length]; omega), any_not_allI] at h
  simp only [Bool.not_eq_false'] at h
  unfold deckOk
  rw [h, cards_length]
  rfl

theorem deckW_zero {hs : List Hd} (h : hs.length = 0) : deckW (cards hs) = 20 := by unfold deckW; rw [cards_length, if_pos h]
theorem deckW_pos {hs : List Hd} (h : 0 < hs.length) : deckW (cards hs) = hs[0].xs.length := by unfold deckW; rw [cards_length, if_neg (by omega), wid0_cards h]
end Go.Proofs.YtkmejkeanmjfbaaDoor
