/- InsertCard; in the reference. -/
import Derived.Test.YtdppmlchabogaaaMergeSp2
namespace Go.Proofs.Ytdppmlchabogaaa
open Go.RowKit

/-- A deck of one card, its header in a block of its own. -/
theorem rdd_card {w : World} {g : Nat} {A : Option Addr} {c : Nat} {xs : List Int} (hc : w.cell? ⟨g, 0, none⟩ = some (.slice A xs.length c)) (r : Rd w w.heap.size 1 A xs.length (ints xs)) (hcap : xs.length ≤ c) : RdD w w.heap.size (some ⟨g, 0, none⟩) [⟨A, c, xs⟩] := by
  refine ⟨⟨rfl, fun _ => ⟨g, 0, rfl, World.block_lt_of_cell? _ _ hc, fun j u hu => ?_⟩⟩, ?_, ?_⟩
  · match j, hu with
    | 0, hu =>
      have e : (heads [(⟨A, c, xs⟩ : Hd)])[0]? = some (.slice A xs.length c) := rfl
      rw [e] at hu
      injection hu with hu
      subst hu
      exact hc
    | j + 1, hu => exact absurd hu (by simp [heads])
  · intro h hh
    rw [List.mem_singleton] at hh
    subst hh
    exact r
  · intro h hh
    rw [List.mem_singleton] at hh
    subst hh
    exact hcap

end Go.Proofs.Ytdppmlchabogaaa
