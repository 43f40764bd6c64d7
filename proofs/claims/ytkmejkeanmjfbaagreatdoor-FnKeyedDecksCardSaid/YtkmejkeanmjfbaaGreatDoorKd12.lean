/- PocketOf; in the program and in the reference. IsIdlePass; in the program and in the reference. SortPass; in the program and in the reference. -/
import Derived.Test.YtkmejkeanmjfbaaGreatDoorKd11
import Derived.Test.YtkmejkeanmjfbaaGreatDoorKd5
import Derived.Deep.RegionHeld3
import Derived.Test.YtkmejkeanmjfbaaGreatDoorKd8
import Derived.Test.YtkmejkeanmjfbaaGreatDoorKd6
/-! ### PocketOf -/
namespace Go.Proofs.YtkmejkeanmjfbaaGreatDoor
open Go.RowKit

def pkC (xs : List Int) (a b : Int) : Int := if cardOk xs = true then (if passOk (xs.length : Int) (a, b) = true then 0 else 2) else 1
def pkV (xs : List Int) (a b : Int) : Int := if pkC xs a b = 0 then pocketI (xs.getD a.toNat 0) b else 0
theorem pk_no {xs : List Int} {a b : Int} (h : cardOk xs = false) : pkV xs a b = 0 ∧ pkC xs a b = 1 := by
  have : pkC xs a b = 1 := by unfold pkC; rw [if_neg (by simp [h])]
  refine ⟨?_, this⟩
  unfold pkV
  rw [this]
  rfl
theorem pk_two {xs : List Int} {a b : Int} (h : cardOk xs = true) (h2 : passOk (xs.length : Int) (a, b) = false) : pkV xs a b = 0 ∧ pkC xs a b = 2 := by
  have : pkC xs a b = 2 := by unfold pkC; rw [if_pos h, if_neg (by simp [h2])]
  refine ⟨?_, this⟩
  unfold pkV
  rw [this]
  rfl
theorem pk_ok {xs : List Int} {a b : Int} (h : cardOk xs = true) (h2 : passOk (xs.length : Int) (a, b) = true) : pkV xs a b = pocketI (xs.getD a.toNat 0) b ∧ pkC xs a b = 0 := by
  have : pkC xs a b = 0 := by unfold pkC; rw [if_pos h, if_pos h2]
  refine ⟨?_, this⟩
  unfold pkV
  rw [if_pos this]
theorem passOk_col {n : Nat} {a b : Int} (h : passOk (n : Int) (a, b) = true) : ∃ i : Nat, a = (i : Int) ∧ i < n := by
  simp only [passOk, Bool.and_eq_true] at h
  have := insideB_true h.1
  exact ⟨a.toNat, by omega, by omega⟩
theorem passesOk_one (cols : Int) (p : Int × Int) : passesOk cols [p] = passOk cols p := by simp [passesOk]
theorem ret_ii' {a b c d : Int} (h : a = b) (k : c = d) : Ending.returned (.tuple #[.int .i64 a, .int .i64 c]) = .returned (.tuple #[.int .i64 b, .int .i64 d]) := by rw [h, k]

end Go.Proofs.YtkmejkeanmjfbaaGreatDoor

/-! ### Idle -/
namespace Go.Proofs.YtkmejkeanmjfbaaGreatDoor
open Go.RowKit

def pkt (x : List Int) (i : Nat) (b : Int) : Int := pocketI (x.getD i 0) b
def idleB (L : List (List Int)) (i : Nat) (b : Int) : Bool := !(L.any fun x => pkt x i b != pkt (L.headD []) i b)
def code7 (L : List (List Int)) (a b : Int) : Int := if deckOk L = true then (if passOk (deckW L : Int) (a, b) = true then 0 else 2) else 1
theorem code7_1 {L : List (List Int)} {a b : Int} (h : deckOk L = false) : code7 L a b = 1 := by unfold code7; rw [if_neg (by simp [h])]
theorem code7_2 {L : List (List Int)} {a b : Int} (h : deckOk L = true) (h2 : passOk (deckW L : Int) (a, b) = false) : code7 L a b = 2 := by unfold code7; rw [if_pos h, if_neg (by simp [h2])]
theorem code7_0 {L : List (List Int)} {a b : Int} (h : deckOk L = true) (h2 : passOk (deckW L : Int) (a, b) = true) : code7 L a b = 0 := by unfold code7; rw [if_pos h, if_pos h2]
theorem code7_zero {L : List (List Int)} {a b : Int} (h : code7 L a b = 0) : deckOk L = true ∧ passOk (deckW L : Int) (a, b) = true := by
  unfold code7 at h
  split at h
  · rename_i h1
    split at h
    · rename_i h2
      exact ⟨h1, h2⟩
    · simp at h
  · simp at h
theorem first_code {L : List (List Int)} {a b : Int} {q : Bool} (h : deckOk L = true) (h2 : passOk (deckW L : Int) (a, b) = q) : code7 L a b = if q = true then 0 else 2 := by unfold code7; rw [if_pos h, h2]
def idleRes (L : List (List Int)) (a b : Int) : Bool := if code7 L a b = 0 then idleB L a.toNat b else false
theorem ret_bi {p q : Bool} {a b : Int} (h : p = q) (k : a = b) : Ending.returned (.tuple #[.bool p, .int .i64 a]) = .returned (.tuple #[.bool q, .int .i64 b]) := by rw [h, k]
theorem pkt_hd {x : List Int} {i : Nat} (h : i < x.length) (b : Int) : pkt x i b = pocketI x[i] b := by unfold pkt; simp [List.getD, List.getElem?_eq_getElem h]
theorem head_cards {hs : List Hd} (h : 0 < hs.length) : (cards hs).headD [] = hs[0].xs := by
  cases hs with
  | nil => simp at h
  | cons x hs => rfl
theorem deck_col {hs : List Hd} (h : deckOk (cards hs) = true) {i : Nat} (hi : i < deckW (cards hs)) {k : Nat} (hk : k < hs.length) : i < hs[k].xs.length := by
  have h1 := deckOk_hd h hk
  rw [deckW_pos (by omega)] at hi
  have h2 := deckOk_hd h (k := 0) (by omega)
  omega

theorem idle_bad {hs : List Hd} {i : Nat} {b : Int} {k : Nat} (hk : k < hs.length) (h : ¬ pkt hs[k].xs i b = pkt ((cards hs).headD []) i b) : idleB (cards hs) i b = false := by
  unfold idleB
  rw [show (cards hs).any (fun x => pkt x i b != pkt ((cards hs).headD []) i b) = true from List.any_eq_true.2 ⟨hs[k].xs, by simp only [cards]; exact List.mem_map_of_mem (List.getElem_mem hk), by simpa using h⟩]
  rfl
theorem zero_case (hs : List Hd) (i : Nat) (b : Int) : ∀ j (hj : j < hs.length), j < 1 → pkt hs[j].xs i b = pkt ((cards hs).headD []) i b := by
  intro j hj h
  obtain rfl : j = 0 := by omega
  rw [head_cards hj]
theorem idle_end {hs : List Hd} {i : Nat} {b : Int} (h : ∀ k (hk : k < hs.length), pkt hs[k].xs i b = pkt ((cards hs).headD []) i b) : idleB (cards hs) i b = true := by
  unfold idleB
  rw [show (cards hs).any (fun x => pkt x i b != pkt ((cards hs).headD []) i b) = false from by
    rw [List.any_eq_false]
    intro x hx
    simp only [cards, List.mem_map] at hx
    obtain ⟨y, hy, rfl⟩ := hx
    obtain ⟨k, hk, rfl⟩ := List.mem_iff_getElem.1 hy
    simpa using h k hk]
  rfl

end Go.Proofs.YtkmejkeanmjfbaaGreatDoor

/-! ### SortPass -/
namespace Go.Proofs.YtkmejkeanmjfbaaGreatDoor
open Go.RowKit

theorem info_deckS : (Tryz.prog.info? 30).map (fun i => (i.zero, i.size, i.bytes)) = some (some (.slice none 0 0), 1, 24) := by kernel_rfl
/-- The cards of a pocket; the cards of all pockets. -/
def pocketL (L : List (List Int)) (i : Nat) (b : Int) (p : Nat) : List (List Int) := L.filter fun x => pkt x i b == (p : Int)
def sortDD (L : List (List Int)) (i : Nat) (b : Int) : List (List (List Int)) := (List.range 13).map (pocketL L i b)
theorem filter_yes {α : Type} {p : α → Bool} {l : List α} {k : Nat} (hk : k < l.length) (h : p l[k] = true) : (l.take (k + 1)).filter p = (l.take k).filter p ++ [l[k]] := by
  rw [List.take_succ_eq_append_getElem hk, List.filter_append]
  simp [h]
theorem filter_no {α : Type} {p : α → Bool} {l : List α} {k : Nat} (hk : k < l.length) (h : p l[k] = false) : (l.take (k + 1)).filter p = (l.take k).filter p := by
  rw [List.take_succ_eq_append_getElem hk, List.filter_append]
  simp [h]
theorem filter_len {α : Type} (p : α → Bool) (l : List α) (k : Nat) : ((l.take k).filter p).length ≤ k := by
  have h1 := List.length_filter_le p (l.take k)
  have h2 := List.length_take_le k l
  omega
/-- Behind k cards of one pocket; behind q pockets. -/
def PkIn (hs : List Hd) (ix : Nat) (b : Int) (q : Nat) (wo wr : World) (o i : Value) : Prop := ∃ (k n : Nat) (G : Option Addr) (cg : Nat) (gs : List Hd), k ≤ hs.length ∧ i = .int .i64 k ∧ gs.length = n ∧ n ≤ k ∧ o = .slice G n cg ∧ cards gs = ((cards hs).take k).filter (fun x => pkt x ix b == (q : Int)) ∧ ObD wr wo.heap.size wr.heap.size 26 2 G cg gs ∧ Below wo.heap.size wo wr
def PkOut (hs : List Hd) (ix : Nat) (b : Int) (W wr : World) (o i : Value) : Prop := ∃ (q : Nat) (E : Option Addr) (ce : Nat) (ds : List Dk), q ≤ 13 ∧ i = .int .i64 q ∧ ds.length = q ∧ o = .slice E ds.length ce ∧ decks ds = (List.range q).map (pocketL (cards hs) ix b) ∧ ObDD wr W.heap.size wr.heap.size 30 26 2 E ce ds ∧ Below W.heap.size W wr
theorem tot_of_cards {gs : List Hd} {L : List (List Int)} (h : cards gs = L) : tot gs = (L.map List.length).sum := by
  subst h
  simp [tot, cards, Function.comp_def]
theorem sum_filter_le (p : List Int → Bool) (L : List (List Int)) : ((L.filter p).map List.length).sum ≤ (L.map List.length).sum := by
  induction L with
  | nil => simp
  | cons x L ih =>
    simp only [List.filter_cons]
    split <;> simp <;> omega

theorem ObDD.nil (w : World) (lo hi : Nat) (eE eD eC : TypeId) : ObDD w lo hi eE eD eC none 0 [] := ObDD.empty ⟨World.ownsRow_nil _ _ _ _, by simp [Value.ownBlock]⟩
theorem deckOk_le {L : List (List Int)} (h : deckOk L = true) : ∀ x ∈ L, x.length ≤ 20 := by
  intro x hx
  obtain ⟨k, hk, rfl⟩ := List.mem_iff_getElem.1 hx
  have h1 := deckOk_card h hk
  exact (cardOk_len h1.1).2
theorem sum_len_le {n : Nat} : ∀ (L : List (List Int)), (∀ x ∈ L, x.length ≤ n) → (L.map List.length).sum ≤ L.length * n
  | [], _ => by simp
  | x :: L, h => by
    have h1 := h x (List.mem_cons_self ..)
    have h2 := sum_len_le L (fun y hy => h y (List.mem_cons_of_mem _ hy))
    simp only [List.map_cons, List.sum_cons, List.length_cons, Nat.succ_mul]
    omega
def sortRes (L : List (List Int)) (a b : Int) : List (List (List Int)) := if code7 L a b = 0 then sortDD L a.toNat b else []
theorem sortRes_0 {L : List (List Int)} {i : Nat} {b : Int} (h : code7 L (i : Int) b = 0) : sortRes L (i : Int) b = sortDD L i b := by unfold sortRes; rw [if_pos h]; rfl
theorem sortRes_1 {L : List (List Int)} {a b : Int} (h : code7 L a b ≠ 0) : sortRes L a b = [] := by unfold sortRes; rw [if_neg h]
theorem sortRes_bound (L : List (List Int)) (a b : Int) {ds : List Dk} (h : decks ds = sortRes L a b) : ds.length + dtot ds ≤ 1048576 := by
  have e : dtot ds = ((decks ds).map fun L => L.length + (L.map List.length).sum).sum := by
    simp only [dtot, decks, List.map_map]
    congr 1
    apply List.map_congr_left
    intro d _
    simp [tot, cards, Function.comp_def]
  have e2 : ds.length = (decks ds).length := (decks_length ds).symm
  rw [e, e2, h]
  unfold sortRes
  split
  · rename_i hz
    obtain ⟨h1, -⟩ := code7_zero hz
    have hn := deckOk_len h1
    have hw : (L.map List.length).sum ≤ 3200 := by
      have := sum_len_le L (deckOk_le h1)
      have : L.length * 20 ≤ 40 * 20 := Nat.mul_le_mul_right _ hn
      omega
    have hk : ∀ M ∈ sortDD L a.toNat b, M.length + (M.map List.length).sum ≤ 40 + 3200 := by
      intro M hM
      simp only [sortDD, List.mem_map] at hM
      obtain ⟨p, _, rfl⟩ := hM
      have g1 : (pocketL L a.toNat b p).length ≤ L.length := List.length_filter_le _ _
      have g2 := sum_filter_le (fun x => pkt x a.toNat b == (p : Int)) L
      have g3 : ((pocketL L a.toNat b p).map List.length).sum ≤ (L.map List.length).sum := g2
      omega
    have hs : ∀ (l : List (List (List Int))), (∀ M ∈ l, M.length + (M.map List.length).sum ≤ 40 + 3200) → (l.map fun L => L.length + (L.map List.length).sum).sum ≤ l.length * (40 + 3200) := by
      intro l
      induction l with
      | nil => simp
      | cons x l ih =>
        intro hl
        have h2 := ih (fun M hM => hl M (List.mem_cons_of_mem _ hM))
        have h3 := hl x (List.mem_cons_self ..)
        simp only [List.map_cons, List.sum_cons, List.length_cons]
        omega
    have h4 := hs _ hk
    have h5 : (sortDD L a.toNat b).length = 13 := by simp [sortDD]
    rw [h5] at h4 ⊢
    omega
  · simp
theorem ret_dd {E : Option Addr} {n ce : Nat} {a b : Int} (h : a = b) : Ending.returned (.tuple #[.slice E n ce, .int .i64 a]) = .returned (.tuple #[.slice E n ce, .int .i64 b]) := by rw [h]

end Go.Proofs.YtkmejkeanmjfbaaGreatDoor
