/- The first cards of groups; in the program and in the reference. -/
import Derived.Test.YtmfoaggohlfflaaGreatDoorGroups
import Derived.Test.YtmfoaggohlfflaaGreatDoorRunLaw
namespace Go.Proofs.YtmfoaggohlfflaaGreatDoor
open Go.RowKit

/-- The cards at some indices. -/
def pickL (L : List (List Int)) (zs : List Int) : List (List Int) := zs.map fun z => L.getD z.toNat []
theorem pickL_succ (L : List (List Int)) (zs : List Int) (k : Nat) (h : k < zs.length) : pickL L (zs.take (k + 1)) = pickL L (zs.take k) ++ [L.getD zs[k].toNat []] := by
  unfold pickL
  rw [List.take_succ_eq_append_getElem h, List.map_append]
  rfl
theorem pickL_length (L : List (List Int)) (zs : List Int) : (pickL L zs).length = zs.length := by simp [pickL]
theorem pickL_mem {L : List (List Int)} {zs : List Int} (h : ∀ z ∈ zs, ∃ i : Nat, z = i ∧ i < L.length) : ∀ x ∈ pickL L zs, x ∈ L := by
  intro x hx
  obtain ⟨z, hz, rfl⟩ := List.mem_map.1 hx
  obtain ⟨i, rfl, hi⟩ := h z hz
  simp only [Int.toNat_natCast, List.getD, List.getElem?_eq_getElem hi, Option.getD_some]
  exact List.getElem_mem hi
def fgRes (L : List (List Int)) (a b : Int) : List (List Int) := if codeK L a b = 0 then pickL L (grpL L a b L.length) else []
theorem fgRes_0 {L : List (List Int)} {a b : Int} (h : codeK L a b = 0) : fgRes L a b = pickL L (grpL L a b L.length) := by unfold fgRes; rw [if_pos h]
theorem fgRes_1 {L : List (List Int)} {a b : Int} (h : codeK L a b ≠ 0) : fgRes L a b = [] := by unfold fgRes; rw [if_neg h]
theorem sub_bound {M L : List (List Int)} (hs : ∀ x ∈ M, x ∈ L) (hn : M.length ≤ 40) (ho : deckOk L = true) {gs : List Hd} (h : cards gs = M) : gs.length + tot gs ≤ 840 := by
  subst h
  have := deckOk_sum (deckOk_sub hs hn ho)
  rwa [cards_length, ← tot_of_cards (gs := gs) rfl] at this
theorem fgRes_bound (L : List (List Int)) (a b : Int) {gs : List Hd} (h : cards gs = fgRes L a b) : gs.length + tot gs ≤ 840 := by
  by_cases hz : codeK L a b = 0
  · rw [fgRes_0 hz] at h
    refine sub_bound (pickL_mem fun z hz' => grpL_mem hz') ?_ (codeK_zero hz).1 h
    rw [pickL_length]
    have h1 := grpL_len L a b L.length
    have h2 := deckOk_len (codeK_zero hz).1
    omega
  · rw [fgRes_1 hz] at h
    have : gs = [] := by
      cases gs with
      | nil => rfl
      | cons x gs => simp [cards] at h
    subst this
    simp [tot]
/-- Behind k of the indices. -/
def FgR (L : List (List Int)) (zs : List Int) (G0 : Option Addr) (cg0 : Nat) (w wr : World) (o q : Value) : Prop := ∃ (k : Nat) (G : Option Addr) (cg : Nat) (gs : List Hd), k ≤ zs.length ∧ q = .int .i64 k ∧ o = .slice G gs.length cg ∧ gs.length ≤ k ∧ cards gs = pickL L (zs.take k) ∧
  ObD wr w.heap.size wr.heap.size 41 2 G cg gs ∧ Ob wr w.heap.size wr.heap.size 2 1 (.slice G0 zs.length cg0) zs.length (ints zs) ∧ Below w.heap.size w wr
theorem pick_at {hs : List Hd} {zs : List Int} (h : ∀ z ∈ zs, ∃ i : Nat, z = i ∧ i < (cards hs).length) {k : Nat} (hk : k < zs.length) : ∃ m : Nat, zs[k] = (m : Int) ∧ ∃ hm : m < hs.length, (cards hs).getD zs[k].toNat [] = hs[m].xs := by
  obtain ⟨m, hm, hml⟩ := h _ (List.getElem_mem hk)
  have hml' : m < hs.length := by rwa [cards_length] at hml
  exact ⟨m, hm, hml', by rw [hm]; simp [cards, hml']⟩

end Go.Proofs.YtmfoaggohlfflaaGreatDoor
