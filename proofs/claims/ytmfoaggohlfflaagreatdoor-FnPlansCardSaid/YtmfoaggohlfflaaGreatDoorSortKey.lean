/- Keys of cards as numbers; merging; a deck in the order of a field. No walk here. -/
import Derived.Test.YtmfoaggohlfflaaGreatDoorSortLib
import Derived.Test.YtmfoaggohlfflaaGreatDoorRankAll
import Derived.Test.YtmfoaggohlfflaaGreatDoorKeysAll
namespace Go.Proofs.YtmfoaggohlfflaaGreatDoor
open Go.RowKit

/-! ### merging two sorted rows of keys -/
/-- From k on as long as a test holds. -/
def upTo (p : Nat → Bool) (n k : Nat) : Nat :=
  if _h : k < n then (if p k = true then upTo p n (k + 1) else k) else k
  termination_by n - k
  decreasing_by all_goals omega
theorem upTo_ok (p : Nat → Bool) (n : Nat) : ∀ (s k : Nat), n - k ≤ s → k ≤ n → k ≤ upTo p n k ∧ upTo p n k ≤ n ∧ (∀ q, k ≤ q → q < upTo p n k → p q = true) ∧ (upTo p n k = n ∨ p (upTo p n k) = false) := by
  intro s
  induction s with
  | zero =>
    intro k h1 h2
    rw [upTo, dif_neg (by omega)]
    exact ⟨Nat.le_refl _, h2, fun q h1 h2 => by omega, .inl (by omega)⟩
  | succ s ih =>
    intro k h1 h2
    rw [upTo]
    split
    · split
      · rename_i hp
        obtain ⟨a1, a2, a3, a4⟩ := ih (k + 1) (by omega) (by omega)
        refine ⟨by omega, a2, fun q hq1 hq2 => ?_, a4⟩
        by_cases e : q = k
        · rw [e]; exact hp
        · exact a3 q (by omega) hq2
      · rename_i hp
        exact ⟨Nat.le_refl _, h2, fun q h1 h2 => by omega, .inr (by simpa using hp)⟩
    · exact ⟨Nat.le_refl _, h2, fun q h1 h2 => by omega, .inl (by omega)⟩
theorem upTo_yes {p : Nat → Bool} {n k : Nat} (h : k < n) (hp : p k = true) : upTo p n (k + 1) = upTo p n k := by
  rw [upTo.eq_def p n k, dif_pos h, if_pos hp]
theorem upTo_no {p : Nat → Bool} {n k : Nat} (hp : k < n → p k = false) : upTo p n k = k := by
  rw [upTo]
  split
  · rename_i h; rw [if_neg (by simp [hp h])]
  · rfl
/-- The numbers of the second row's elements x .. y-1. -/
def seg (la x y : Nat) : List Int := (List.range' x (y - x)).map fun q => ((la + q : Nat) : Int)
theorem seg_nil (la x : Nat) : seg la x x = [] := by simp [seg]
theorem seg_snoc (la x y : Nat) (h : x ≤ y) : seg la x (y + 1) = seg la x y ++ [((la + y : Nat) : Int)] := by
  unfold seg
  rw [show y + 1 - x = (y - x) + 1 by omega, List.range'_concat, List.map_append]
  simp
  omega
theorem seg_length (la x y : Nat) : (seg la x y).length = y - x := by simp [seg]
theorem seg_mem {la x y : Nat} {z : Int} (h : z ∈ seg la x y) : ∃ q, x ≤ q ∧ q < y ∧ z = ((la + q : Nat) : Int) := by
  simp only [seg, List.mem_map, List.mem_range'_1] at h
  obtain ⟨q, hq, rfl⟩ := h
  exact ⟨q, hq.1, by omega, rfl⟩
theorem seg_append (la : Nat) {x y z : Nat} (h1 : x ≤ y) (h2 : y ≤ z) : seg la x y ++ seg la y z = seg la x z := by
  unfold seg
  rw [← List.map_append]
  congr 1
  rw [show List.range' y (z - y) = List.range' (x + 1 * (y - x)) (z - y) by congr 1; omega, List.range'_append]
  congr 1
  omega
theorem seg_sorted {key : Int → Int} {la lb : Nat} (hb : ∀ i j, i < j → j < lb → ¬ key ((la + j : Nat) : Int) < key ((la + i : Nat) : Int)) (x y : Nat) (hy : y ≤ lb) : (seg la x y).Pairwise (Rk key) := by
  rw [List.pairwise_iff_getElem]
  intro i j hi hj hij
  rw [seg_length] at hi hj
  simp only [seg, List.getElem_map, List.getElem_range']
  refine Rk.of_not (hb (x + 1 * i) (x + 1 * j) (by omega) (by omega)) (by omega)
/-- How many of the second row stand ahead of the first row's element i-1; what has been merged behind i elements. -/
def mgK (key : Int → Int) (la lb : Nat) : Nat → Nat
  | 0 => 0
  | i + 1 => upTo (fun q => decide (key ((la + q : Nat) : Int) < key (i : Int))) lb (mgK key la lb i)
def mgO (key : Int → Int) (la lb : Nat) : Nat → List Int
  | 0 => []
  | i + 1 => mgO key la lb i ++ seg la (mgK key la lb i) (mgK key la lb (i + 1)) ++ [(i : Int)]
def mgF (key : Int → Int) (la lb : Nat) : List Int := mgO key la lb la ++ seg la (mgK key la lb la) lb
section
variable {key : Int → Int} {la lb : Nat}
theorem mgK_ok (i : Nat) : mgK key la lb i ≤ mgK key la lb (i + 1) ∧ mgK key la lb (i + 1) ≤ lb ∧ mgK key la lb i ≤ lb ∧ (∀ q, mgK key la lb i ≤ q → q < mgK key la lb (i + 1) → key ((la + q : Nat) : Int) < key (i : Int)) ∧
    (mgK key la lb (i + 1) = lb ∨ ¬ key ((la + mgK key la lb (i + 1) : Nat) : Int) < key (i : Int)) := by
  have h0 : ∀ j, mgK key la lb j ≤ lb := by
    intro j
    induction j with
    | zero => exact Nat.zero_le _
    | succ j ih => exact (upTo_ok _ lb _ _ (Nat.le_refl _) ih).2.1
  obtain ⟨a1, a2, a3, a4⟩ := upTo_ok (fun q => decide (key ((la + q : Nat) : Int) < key (i : Int))) lb _ (mgK key la lb i) (Nat.le_refl _) (h0 i)
  refine ⟨a1, a2, h0 i, fun q h1 h2 => by simpa using a3 q h1 h2, ?_⟩
  rcases a4 with a4 | a4
  · exact .inl a4
  · right
    exact of_decide_eq_false a4
theorem mgO_mem : ∀ (i : Nat) {z : Int}, z ∈ mgO key la lb i → (∃ p : Nat, p < i ∧ z = (p : Int)) ∨ ∃ q, q < mgK key la lb i ∧ z = ((la + q : Nat) : Int)
  | 0, z, h => by simp [mgO] at h
  | i + 1, z, h => by
    have hk := (mgK_ok (key := key) (la := la) (lb := lb) i).1
    simp only [mgO, List.mem_append, List.mem_singleton] at h
    rcases h with (h | h) | h
    · rcases mgO_mem i h with ⟨p, hp, e⟩ | ⟨q, hq, e⟩
      · exact .inl ⟨p, by omega, e⟩
      · exact .inr ⟨q, by omega, e⟩
    · obtain ⟨q, _, hq2, e⟩ := seg_mem h
      exact .inr ⟨q, hq2, e⟩
    · exact .inl ⟨i, by omega, h⟩
theorem mgO_sorted (ha : ∀ i j, i < j → j < la → ¬ key (j : Int) < key (i : Int)) (hb : ∀ i j, i < j → j < lb → ¬ key ((la + j : Nat) : Int) < key ((la + i : Nat) : Int)) : ∀ i, i ≤ la →
    (mgO key la lb i).Pairwise (Rk key) ∧ (∀ q, q < mgK key la lb i → ∃ p, i = p + 1 ∧ key ((la + q : Nat) : Int) < key (p : Int)) ∧ (∀ q, mgK key la lb i ≤ q → q < lb → ∀ z ∈ mgO key la lb i, Rk key z ((la + q : Nat) : Int))
  | 0, _ => ⟨List.Pairwise.nil, fun q h => by simp [mgK] at h, fun q _ _ z hz => by simp [mgO] at hz⟩
  | i + 1, hi => by
    obtain ⟨i1, i2, i3⟩ := mgO_sorted ha hb i (by omega)
    obtain ⟨k1, k2, k3, k4, k5⟩ := mgK_ok (key := key) (la := la) (lb := lb) i
    have hle : ∀ p, p < i → ¬ key (i : Int) < key (p : Int) := fun p hp => ha p i hp (by omega)
    have hall : ∀ q, q < mgK key la lb (i + 1) → key ((la + q : Nat) : Int) < key (i : Int) := by
      intro q hq
      by_cases h : q < mgK key la lb i
      · obtain ⟨p, rfl, hp⟩ := i2 q h
        have := hle p (by omega)
        omega
      · exact k4 q (by omega) hq
    have hto : ∀ z ∈ mgO key la lb i ++ seg la (mgK key la lb i) (mgK key la lb (i + 1)), Rk key z (i : Int) := by
      intro z hz
      rcases List.mem_append.1 hz with hz | hz
      · rcases mgO_mem i hz with ⟨p, hp, rfl⟩ | ⟨q, hq, rfl⟩
        · exact Rk.of_not (hle p hp) (by omega)
        · exact Rk.of_lt (hall q (by omega))
      · obtain ⟨q, _, hq, rfl⟩ := seg_mem hz
        exact Rk.of_lt (hall q hq)
    have hpre : (mgO key la lb i ++ seg la (mgK key la lb i) (mgK key la lb (i + 1))).Pairwise (Rk key) := by
      rw [List.pairwise_append]
      refine ⟨i1, seg_sorted hb _ _ k2, fun x hx y hy => ?_⟩
      obtain ⟨q, hq1, hq2, rfl⟩ := seg_mem hy
      exact i3 q hq1 (by omega) x hx
    refine ⟨?_, fun q hq => ⟨i, rfl, hall q hq⟩, ?_⟩
    · simp only [mgO]
      rw [List.pairwise_append]
      exact ⟨hpre, List.pairwise_singleton _ _, fun x hx y hy => by rw [List.mem_singleton] at hy; subst hy; exact hto x hx⟩
    · intro q hq1 hq2 z hz
      have hend : ¬ key ((la + q : Nat) : Int) < key (i : Int) := by
        rcases k5 with h | h
        · omega
        · by_cases e : q = mgK key la lb (i + 1)
          · rw [e]; exact h
          · have := hb (mgK key la lb (i + 1)) q (by omega) hq2
            omega
      have hR : Rk key (i : Int) ((la + q : Nat) : Int) := Rk.of_not hend (by omega)
      simp only [mgO] at hz
      rcases List.mem_append.1 hz with hz | hz
      · exact (hto z hz).trans hR
      · rw [List.mem_singleton] at hz
        subst hz
        exact hR
theorem rowF_snoc (f : Nat → Int) (n : Nat) : rowF f (n + 1) = rowF f n ++ [f n] := by simp [rowF, List.range_succ]
theorem mgO_perm : ∀ i, (mgO key la lb i).Perm (rowF (fun k => (k : Int)) i ++ seg la 0 (mgK key la lb i))
  | 0 => by simp [mgO, rowF, mgK, seg]
  | i + 1 => by
    have ih := mgO_perm i
    obtain ⟨k1, k2, k3, _, _⟩ := mgK_ok (key := key) (la := la) (lb := lb) i
    simp only [mgO]
    rw [rowF_snoc]
    have h1 : (mgO key la lb i ++ seg la (mgK key la lb i) (mgK key la lb (i + 1))).Perm (rowF (fun k => (k : Int)) i ++ seg la 0 (mgK key la lb (i + 1))) := by
      refine (List.Perm.append_right _ ih).trans ?_
      rw [List.append_assoc, seg_append la (Nat.zero_le _) k1]
    refine (List.Perm.append_right _ h1).trans ?_
    rw [List.append_assoc, List.append_assoc]
    exact List.Perm.append_left _ List.perm_append_comm
theorem mgF_places (ha : ∀ i j, i < j → j < la → ¬ key (j : Int) < key (i : Int)) (hb : ∀ i j, i < j → j < lb → ¬ key ((la + j : Nat) : Int) < key ((la + i : Nat) : Int)) : mgF key la lb = plL key (la + lb) := by
  obtain ⟨i1, i2, i3⟩ := mgO_sorted ha hb la (Nat.le_refl _)
  have hk := (mgK_ok (key := key) (la := la) (lb := lb) la).2.2.1
  refine places_unique ?_ ?_
  · unfold mgF
    refine (List.Perm.append_right _ (mgO_perm la)).trans ?_
    rw [List.append_assoc, seg_append la (Nat.zero_le _) hk]
    have : rowF (fun k => (k : Int)) (la + lb) = rowF (fun k => (k : Int)) la ++ seg la 0 lb := by
      unfold rowF seg
      rw [List.range_add, List.map_append, List.map_map]
      congr 1
      rw [Nat.sub_zero, ← List.range_eq_range']
      apply List.map_congr_left
      intro q _
      rfl
    rw [this]
  · unfold mgF
    rw [List.pairwise_append]
    refine ⟨i1, seg_sorted hb _ _ (Nat.le_refl _), fun x hx y hy => ?_⟩
    obtain ⟨q, hq1, hq2, rfl⟩ := seg_mem hy
    exact i3 q hq1 hq2 x hx
end
/-! ### keys of cards as numbers -/
/-- Numbers from -1 to 39 as one number. -/
def numK : List Int → Int
  | [] => 0
  | x :: xs => (x + 1) * (41 ^ xs.length : Nat) + numK xs
theorem numK_range : ∀ (xs : List Int), (∀ x ∈ xs, -1 ≤ x ∧ x ≤ 39) → 0 ≤ numK xs ∧ numK xs < (41 ^ xs.length : Nat)
  | [], _ => by simp [numK]
  | x :: xs, h => by
    obtain ⟨h1, h2⟩ := numK_range xs fun y hy => h y (List.mem_cons_of_mem _ hy)
    have hx := h x (List.mem_cons_self ..)
    simp only [numK, List.length_cons, Nat.pow_succ]
    generalize 41 ^ xs.length = P at h1 h2 ⊢
    have e1 : 0 ≤ (x + 1) * (P : Int) := Int.mul_nonneg (by omega) (by omega)
    have e2 : (x + 1) * (P : Int) ≤ 40 * (P : Int) := Int.mul_le_mul_of_nonneg_right (by omega) (by omega)
    constructor
    · omega
    · rw [Int.natCast_mul]
      omega
theorem cmpN_num : ∀ (xs ys : List Int), xs.length = ys.length → (∀ x ∈ xs, -1 ≤ x ∧ x ≤ 39) → (∀ x ∈ ys, -1 ≤ x ∧ x ≤ 39) → ((cmpN xs ys < 0 ↔ numK xs < numK ys) ∧ (cmpN xs ys = 0 ↔ numK xs = numK ys))
  | [], [], _, _, _ => by simp [cmpN, numK]
  | [], _ :: _, h, _, _ => by simp at h
  | _ :: _, [], h, _, _ => by simp at h
  | x :: xs, y :: ys, h, hx, hy => by
    have hl : xs.length = ys.length := by simpa using h
    obtain ⟨i1, i2⟩ := cmpN_num xs ys hl (fun z hz => hx z (List.mem_cons_of_mem _ hz)) (fun z hz => hy z (List.mem_cons_of_mem _ hz))
    obtain ⟨a1, a2⟩ := numK_range xs fun z hz => hx z (List.mem_cons_of_mem _ hz)
    obtain ⟨b1, b2⟩ := numK_range ys fun z hz => hy z (List.mem_cons_of_mem _ hz)
    simp only [numK, cmpN]
    rw [hl] at a2 ⊢
    generalize 41 ^ ys.length = P at a2 b2 ⊢
    by_cases h1 : x < y
    · rw [if_pos h1]
      have : (x + 1 + 1) * (P : Int) ≤ (y + 1) * (P : Int) := Int.mul_le_mul_of_nonneg_right (by omega) (by omega)
      have e : (x + 1 + 1) * (P : Int) = (x + 1) * (P : Int) + P := by rw [Int.add_mul (x + 1) 1, Int.one_mul]
      constructor <;> constructor <;> intro _ <;> omega
    · rw [if_neg h1]
      by_cases h2 : y < x
      · rw [if_pos h2]
        have : (y + 1 + 1) * (P : Int) ≤ (x + 1) * (P : Int) := Int.mul_le_mul_of_nonneg_right (by omega) (by omega)
        have e : (y + 1 + 1) * (P : Int) = (y + 1) * (P : Int) + P := by rw [Int.add_mul (y + 1) 1, Int.one_mul]
        constructor <;> constructor <;> intro _ <;> omega
      · rw [if_neg h2]
        obtain rfl : x = y := by omega
        rw [i1, i2]
        constructor <;> constructor <;> intro _ <;> omega

/-- The key of a card of a deck. -/
def keyZ (L : List (List Int)) (a b : Int) (z : Int) : Int := numK ((part (L.getD z.toNat []) a b).map rankM)
theorem rank_mem {xs : List Int} : ∀ x ∈ xs.map rankM, -1 ≤ x ∧ x ≤ 39 := by
  intro x hx
  obtain ⟨m, _, rfl⟩ := List.mem_map.1 hx
  exact rankM_range m
theorem keyZ_cmp {L : List (List Int)} {i j : Nat} (hok : deckOk L = true) (hij : i < j) (hj : j ≤ deckW L) {p q : Nat} (hp : p < L.length) (hq : q < L.length) :
    (cmpC L (i : Int) (j : Int) p q < 0 ↔ keyZ L (i : Int) (j : Int) (p : Int) < keyZ L (i : Int) (j : Int) (q : Int)) ∧ (cmpC L (i : Int) (j : Int) p q = 0 ↔ keyZ L (i : Int) (j : Int) (p : Int) = keyZ L (i : Int) (j : Int) (q : Int)) := by
  rw [cmpC_at hp hq]
  unfold cmpR keyZ
  simp only [Int.toNat_natCast]
  rw [show L.getD p [] = L[p] by simp [List.getD, hp], show L.getD q [] = L[q] by simp [List.getD, hq]]
  exact cmpN_num _ _ (by rw [List.length_map, List.length_map, (part_deck hok hij hj hp).1, (part_deck hok hij hj hq).1]) rank_mem rank_mem
/-- The places of a deck in the order of a field; the deck in that order. -/
def ordL (L : List (List Int)) (a b : Int) : List Int := plL (keyZ L a b) L.length
def sortedL (L : List (List Int)) (a b : Int) : List (List Int) := (ordL L a b).map fun z => L.getD z.toNat []
theorem ordL_length (L : List (List Int)) (a b : Int) : (ordL L a b).length = L.length := plL_length _ _
theorem sortedL_length (L : List (List Int)) (a b : Int) : (sortedL L a b).length = L.length := by unfold sortedL; rw [List.length_map, ordL_length]
theorem ordL_mem {L : List (List Int)} {a b z : Int} (h : z ∈ ordL L a b) : ∃ k : Nat, z = k ∧ k < L.length := plL_mem h
theorem ordL_at (L : List (List Int)) (a b : Int) {k : Nat} (h : k < L.length) : ∃ q : Nat, (ordL L a b)[k]'(by rw [ordL_length]; exact h) = (q : Int) ∧ q < L.length := ordL_mem (List.getElem_mem _)
theorem cards_row (L : List (List Int)) : (rowF (fun k => (k : Int)) L.length).map (fun z => L.getD z.toNat []) = L := by
  apply List.ext_getElem
  · simp [rowF]
  · intro k h1 h2
    simp [rowF, List.getD, h2]
theorem sortedL_perm (L : List (List Int)) (a b : Int) : (sortedL L a b).Perm L := by
  have h := (plL_perm (keyZ L a b) L.length).map fun z => L.getD z.toNat []
  rw [cards_row] at h
  exact h
theorem char_getD' {k : Nat} (hk : k < 40) : charL.getD k 0 = charL[k]'hk := by
  simp only [List.getD]
  rw [List.getElem?_eq_getElem (show k < charL.length from hk)]
  rfl
end Go.Proofs.YtmfoaggohlfflaaGreatDoor
