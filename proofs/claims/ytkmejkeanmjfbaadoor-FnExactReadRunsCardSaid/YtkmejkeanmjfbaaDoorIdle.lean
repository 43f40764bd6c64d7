/- IsIdlePass; in the program and in the reference. -/
import Derived.Test.YtkmejkeanmjfbaaDoorFuncsCard
import Derived.Test.YtkmejkeanmjfbaaDoorPocketOf
namespace Go.Proofs.YtkmejkeanmjfbaaDoor
open Go.RowKit

def pkt (x : List Int) (i : Nat) (b : Int) : Int := pocketI (x.getD i 0) b
def idleB (L : List (List Int)) (i : Nat) (b : Int) : Bool := !(L.any fun x => pkt x i b != pkt (L.headD []) i b)
def code7 (L : List (List Int)) (a b : Int) : Int := if deckOk L = true then (if passOk (deckW L : Int) (a, b) = true then 0 else 2) else 1
theorem code7_1 {L : List (List Int)} {a b : Int} (h : deckOk L = false) : code7 L a b = 1 := by unfold code7; rw [if_neg (by simp [h])]
theorem code7_2 {L : List (List Int)} {a b : Int} (h : deckOk L = true) (h2 : passOk (deckW L : Int) (a, b) = false) : code7 L a b = 2 := by unfold code7; rw [if_pos h, if_neg (by simp [h2])]
theorem code7_0 {L : List (List Int)} {a b : Int} (h : deckOk L = true) (h2 : passOk (deckW L : Int) (a, b) = true) : code7 L a b = 0 := by unfold code7; rw [if_pos h, if_pos h2]
theorem code7_zero {L : List (List Int)} {a b : Int} (h : code7 L a b = 0) : deckOk L = true ∧ passOk (deckW L : Int) (a, b) = true := by
  unfold code7 at h
  split at h
  · rename_i h1
    split at h
    · rename_i h2
      exact ⟨h1, h2⟩
    · simp at h
  · simp at h
theorem first_code {L : List (List Int)} {a b : Int} {q : Bool} (h : deckOk L = true) (h2 : passOk (deckW L : Int) (a, b) = q) : code7 L a b = if q = true then 0 else 2 := by unfold code7; rw [if_pos h, h2]
def idleRes (L : List (List Int)) (a b : Int) : Bool := if code7 L a b = 0 then idleB L a.toNat b else false
theorem ret_bi {p q : Bool} {a b : Int} (h : p = q) (k : a = b) : Ending.returned (.tuple #[.bool p, .int .i64 a]) = .returned (.tuple #[.bool q, .int .i64 b]) := by rw [h, k]
theorem pkt_hd {x : List Int} {i : Nat} (h : i < x.length) (b : Int) : pkt x i b = pocketI x[i] b := by unfold pkt; simp [List.getD, List.getElem?_eq_getElem h]
theorem head_cards {hs : List Hd} (h : 0 < hs.length) : (cards hs).headD [] = hs[0].xs := by
  cases hs with
  | nil => simp at h
  | cons x hs => rfl
theorem deck_col {hs : List Hd} (h : deckOk (cards hs) = true) {i : Nat} (hi : i < deckW (cards hs)) {k : Nat} (hk : k < hs.length) : i < hs[k].xs.length := by
  have h1 := deckOk_hd h hk
  rw [deckW_pos (by omega)] at hi
  have h2 := deckOk_hd h (k := 0) (by omega)
  omega

theorem idle_bad {hs : List Hd} {i : Nat} {b : Int} {k : Nat} (hk : k < hs.length) (h : ¬ pkt hs[k].xs i b = pkt ((cards hs).headD []) i b) : idleB (cards hs) i b = false := by
  unfold idleB
  rw [show (cards hs).any (fun x => pkt x i b != pkt ((cards hs).headD []) i b) = true from List.any_eq_true.2 ⟨hs[k].xs, by simp only [cards]; exact List.mem_map_of_mem (List.getElem_mem hk), by simpa using h⟩]
  rfl
theorem zero_case (hs : List Hd) (i : Nat) (b : Int) : ∀ j (hj : j < hs.length), j < 1 → pkt hs[j].xs i b = pkt ((cards hs).headD []) i b := by
  intro j hj h
  obtain rfl : j = 0 := by omega
  rw [head_cards hj]
theorem idle_end {hs : List Hd} {i : Nat} {b : Int} (h : ∀ k (hk : k < hs.length), pkt hs[k].xs i b = pkt ((cards hs).headD []) i b) : idleB (cards hs) i b = true := by
  unfold idleB
  rw [show (cards hs).any (fun x => pkt x i b != pkt ((cards hs).headD []) i b) = false from by
    rw [List.any_eq_false]
    intro x hx
    simp only [cards, List.mem_map] at hx
    obtain ⟨y, hy, rfl⟩ := hx
    obtain ⟨k, hk, rfl⟩ := List.mem_iff_getElem.1 hy
    simpa using h k hk]
  rfl

end Go.Proofs.YtkmejkeanmjfbaaDoor
