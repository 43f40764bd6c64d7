/- NearestCard; in the program and in the reference. -/
import Derived.Test.YtabdlbaonjhnnaaDecks
import Derived.Test.YtabdlbaonjhnnaaDist
import Derived.Test.YtabdlbaonjhnnaaMinIdx
namespace Go.Proofs.Ytabdlbaonjhnnaa
open Go.RowKit

def nearC (L : List (List Int)) (xs : List Int) : Int := if deckOk L = true ∧ cardOk xs = true then (if L.length = 0 then 3 else if wid0 L = xs.length then 0 else 2) else 1
def dists (L : List (List Int)) (xs : List Int) : List Int := L.map fun x => distV x xs
def nearK (L : List (List Int)) (xs : List Int) : Nat := bestTo (atI (dists L xs)) L.length
def nearA (L : List (List Int)) (xs : List Int) : Int := if nearC L xs = 0 then (nearK L xs : Int) else 0
def nearD (L : List (List Int)) (xs : List Int) : Int := if nearC L xs = 0 then atI (dists L xs) (nearK L xs) else 0
theorem near_bad {L : List (List Int)} {xs : List Int} (h : ¬ nearC L xs = 0) : nearA L xs = 0 ∧ nearD L xs = 0 := by
  unfold nearA nearD
  rw [if_neg h, if_neg h]
  exact ⟨rfl, rfl⟩
theorem near_ok {L : List (List Int)} {xs : List Int} (h : nearC L xs = 0) : nearA L xs = (nearK L xs : Int) ∧ nearD L xs = atI (dists L xs) (nearK L xs) := by
  unfold nearA nearD
  rw [if_pos h, if_pos h]
  exact ⟨rfl, rfl⟩
theorem nearC_1 {L : List (List Int)} {xs : List Int} (h : deckOk L = false) : nearC L xs = 1 := by unfold nearC; rw [if_neg (by simp [h])]
theorem nearC_2 {L : List (List Int)} {xs : List Int} (h : cardOk xs = false) : nearC L xs = 1 := by unfold nearC; rw [if_neg (by simp [h])]
theorem nearC_3 {L : List (List Int)} {xs : List Int} (h : deckOk L = true) (h' : cardOk xs = true) (h0 : L.length = 0) : nearC L xs = 3 := by unfold nearC; rw [if_pos ⟨h, h'⟩, if_pos h0]
theorem nearC_4 {L : List (List Int)} {xs : List Int} (h : deckOk L = true) (h' : cardOk xs = true) (h0 : ¬ L.length = 0) (h1 : ¬ wid0 L = xs.length) : nearC L xs = 2 := by unfold nearC; rw [if_pos ⟨h, h'⟩, if_neg h0, if_neg h1]
theorem nearC_5 {L : List (List Int)} {xs : List Int} (h : deckOk L = true) (h' : cardOk xs = true) (h0 : ¬ L.length = 0) (h1 : wid0 L = xs.length) : nearC L xs = 0 := by unfold nearC; rw [if_pos ⟨h, h'⟩, if_neg h0, if_pos h1]
theorem dists_length (L : List (List Int)) (xs : List Int) : (dists L xs).length = L.length := by simp [dists]
theorem dists_at {hs : List Hd} {xs : List Int} {k : Nat} (h : k < hs.length) : atI (dists (cards hs) xs) k = distV hs[k].xs xs := by
  rw [atI_get (by rw [dists_length, cards_length]; exact h)]
  simp [dists, cards]
theorem dists_snoc {hs : List Hd} {xs : List Int} {k : Nat} (h : k < hs.length) : (dists (cards hs) xs).take (k + 1) = (dists (cards hs) xs).take k ++ [distV hs[k].xs xs] := by
  rw [List.take_succ_eq_append_getElem (by rw [dists_length, cards_length]; exact h)]
  simp [dists, cards]
theorem ret_iii {a b c a' b' c' : Int} (h1 : a = a') (h2 : b = b') (h3 : c = c') : Ending.returned (.tuple #[.int .i64 a, .int .i64 b, .int .i64 c]) = .returned (.tuple #[.int .i64 a', .int .i64 b', .int .i64 c']) := by rw [h1, h2, h3]

end Go.Proofs.Ytabdlbaonjhnnaa
