/- slices.DeleteFunc over []Card on a deck of the call's own, at a closure whose contract is given. -/
import Derived.Test.YtkmejkeanmjfbaaDoorFuncsCard
namespace Go.Proofs.YtkmejkeanmjfbaaDoor
open Go.RowKit

def predH (pred : List Int → Bool) (h : Hd) : Bool := pred h.xs
theorem keep_cards (pred : List Int → Bool) (hs : List Hd) : cards (keep (predH pred) hs) = keep pred (cards hs) := by
  unfold keep cards predH
  induction hs with
  | nil => rfl
  | cons h hs ih =>
    simp only [List.map_cons, List.filter_cons]
    cases pred h.xs <;> simp [ih]
theorem heads_takeD (hs : List Hd) (k : Nat) : (heads hs).take k = heads (hs.take k) := by simp [heads]
theorem any_cards (pred : List Int → Bool) (hs : List Hd) : (cards hs).any pred = hs.any (predH pred) := by
  unfold cards predH
  rw [List.any_map]
  rfl
theorem idxP_cards (pred : List Int → Bool) (hs : List Hd) : idxP pred (cards hs) = idxP (predH pred) hs := by
  unfold idxP
  rw [any_cards]
  split
  · congr 1
    unfold cards
    rw [List.findIdx_map]
    rfl
  · rfl
/-- The cards' rows stay where the row of headers turns. -/
def CardsOb (w : World) (lo hi : Nat) (hs : List Hd) : Prop := ∀ h ∈ hs, Ob w lo hi 2 1 (.slice h.a h.xs.length h.c) h.xs.length (ints h.xs)
theorem CardsOb.bs {w w' : World} {lo hi : Nat} {hs : List Hd} (h : CardsOb w lo hi hs) (hb : Below w.heap.size w w') : CardsOb w' lo hi hs := fun x hx => (h x hx).bs hb
theorem set_grown {w : World} {base g n cap : Nat} {e : TypeId} {size : Nat} {xs : List Value} (h : w.ownsRow base e size (.slice (some ⟨g, 0, none⟩) n cap) n xs) (j : Nat) (u : Value) : w.grownBy (w.setCell ⟨g, j, none⟩ u) (some g) := (h.stored j u).2

end Go.Proofs.YtkmejkeanmjfbaaDoor
