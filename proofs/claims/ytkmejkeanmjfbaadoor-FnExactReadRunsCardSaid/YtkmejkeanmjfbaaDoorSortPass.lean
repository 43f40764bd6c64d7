/- SortPass; in the program and in the reference. -/
import Derived.Test.YtkmejkeanmjfbaaDoorIdle
import Derived.Test.YtkmejkeanmjfbaaDoorDecks2
namespace Go.Proofs.YtkmejkeanmjfbaaDoor
open Go.RowKit

/-- The cards of a pocket; the cards of all pockets. -/
def pocketL (L : List (List Int)) (i : Nat) (b : Int) (p : Nat) : List (List Int) := L.filter fun x => pkt x i b == (p : Int)
def sortDD (L : List (List Int)) (i : Nat) (b : Int) : List (List (List Int)) := (List.range 13).map (pocketL L i b)
theorem filter_yes {α : Type} {p : α → Bool} {l : List α} {k : Nat} (hk : k < l.length) (h : p l[k] = true) : (l.take (k + 1)).filter p = (l.take k).filter p ++ [l[k]] := by
  rw [List.take_succ_eq_append_getElem hk, List.filter_append]
  simp [h]
theorem filter_no {α : Type} {p : α → Bool} {l : List α} {k : Nat} (hk : k < l.length) (h : p l[k] = false) : (l.take (k + 1)).filter p = (l.take k).filter p := by
  rw [List.take_succ_eq_append_getElem hk, List.filter_append]
  simp [h]
theorem filter_len {α : Type} (p : α → Bool) (l : List α) (k : Nat) : ((l.take k).filter p).length ≤ k := by
  have h1 := List.length_filter_le p (l.take k)
  have h2 := List.length_take_le k l
  omega
theorem tot_of_cards {gs : List Hd} {L : List (List Int)} (h : cards gs = L) : tot gs = (L.map List.length).sum := by
  subst h
  simp [tot, cards, Function.comp_def]
theorem sum_filter_le (p : List Int → Bool) (L : List (List Int)) : ((L.filter p).map List.length).sum ≤ (L.map List.length).sum := by
  induction L with
  | nil => simp
  | cons x L ih =>
    simp only [List.filter_cons]
    split <;> simp <;> omega

theorem ObDD.nil (w : World) (lo hi : Nat) (eE eD eC : TypeId) : ObDD w lo hi eE eD eC none 0 [] := ObDD.empty ⟨World.ownsRow_nil _ _ _ _, by simp [Value.ownBlock]⟩
theorem deckOk_le {L : List (List Int)} (h : deckOk L = true) : ∀ x ∈ L, x.length ≤ 20 := by
  intro x hx
  obtain ⟨k, hk, rfl⟩ := List.mem_iff_getElem.1 hx
  have h1 := deckOk_card h hk
  exact (cardOk_len h1.1).2
theorem sum_len_le {n : Nat} : ∀ (L : List (List Int)), (∀ x ∈ L, x.length ≤ n) → (L.map List.length).sum ≤ L.length * n
  | [], _ => by simp
  | x :: L, h => by
    have h1 := h x (List.mem_cons_self ..)
    have h2 := sum_len_le L (fun y hy => h y (List.mem_cons_of_mem _ hy))
    simp only [List.map_cons, List.sum_cons, List.length_cons, Nat.succ_mul]
    omega
def sortRes (L : List (List Int)) (a b : Int) : List (List (List Int)) := if code7 L a b = 0 then sortDD L a.toNat b else []
theorem sortRes_0 {L : List (List Int)} {i : Nat} {b : Int} (h : code7 L (i : Int) b = 0) : sortRes L (i : Int) b = sortDD L i b := by unfold sortRes; rw [if_pos h]; rfl
theorem sortRes_1 {L : List (List Int)} {a b : Int} (h : code7 L a b ≠ 0) : sortRes L a b = [] := by unfold sortRes; rw [if_neg h]
theorem sortRes_bound (L : List (List Int)) (a b : Int) {ds : List Dk} (h : decks ds = sortRes L a b) : ds.length + dtot ds ≤ 1048576 := by
  have e : dtot ds = ((decks ds).map fun L => L.length + (L.map List.length).sum).sum := by
    simp only [dtot, decks, List.map_map]
    congr 1
    apply List.map_congr_left
    intro d _
    simp [tot, cards, Function.comp_def]
  have e2 : ds.length = (decks ds).length := (decks_length ds).symm
  rw [e, e2, h]
  unfold sortRes
  split
  · rename_i hz
    obtain ⟨h1, -⟩ := code7_zero hz
    have hn := deckOk_len h1
    have hw : (L.map List.length).sum ≤ 3200 := by
      have := sum_len_le L (deckOk_le h1)
      have : L.length * 20 ≤ 40 * 20 := Nat.mul_le_mul_right _ hn
      omega
    have hk : ∀ M ∈ sortDD L a.toNat b, M.length + (M.map List.length).sum ≤ 40 + 3200 := by
      intro M hM
      simp only [sortDD, List.mem_map] at hM
      obtain ⟨p, _, rfl⟩ := hM
      have g1 : (pocketL L a.toNat b p).length ≤ L.length := List.length_filter_le _ _
      have g2 := sum_filter_le (fun x => pkt x a.toNat b == (p : Int)) L
      have g3 : ((pocketL L a.toNat b p).map List.length).sum ≤ (L.map List.length).sum := g2
      omega
    have hs : ∀ (l : List (List (List Int))), (∀ M ∈ l, M.length + (M.map List.length).sum ≤ 40 + 3200) → (l.map fun L => L.length + (L.map List.length).sum).sum ≤ l.length * (40 + 3200) := by
      intro l
      induction l with
      | nil => simp
      | cons x l ih =>
        intro hl
        have h2 := ih (fun M hM => hl M (List.mem_cons_of_mem _ hM))
        have h3 := hl x (List.mem_cons_self ..)
        simp only [List.map_cons, List.sum_cons, List.length_cons]
        omega
    have h4 := hs _ hk
    have h5 : (sortDD L a.toNat b).length = 13 := by simp [sortDD]
    rw [h5] at h4 ⊢
    omega
  · simp
theorem ret_dd {E : Option Addr} {n ce : Nat} {a b : Int} (h : a = b) : Ending.returned (.tuple #[.slice E n ce, .int .i64 a]) = .returned (.tuple #[.slice E n ce, .int .i64 b]) := by rw [h]

end Go.Proofs.YtkmejkeanmjfbaaDoor
