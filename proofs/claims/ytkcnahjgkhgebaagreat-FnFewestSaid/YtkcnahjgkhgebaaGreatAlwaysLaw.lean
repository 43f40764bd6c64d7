/- When passes sort all decks: the two ways of saying it are one. No walk here. -/
import Derived.Test.YtkcnahjgkhgebaaGreatRunLaw
import Derived.Test.YtkcnahjgkhgebaaGreatCodeAll
import Derived.Test.YtkcnahjgkhgebaaGreatPlan
namespace Go.Proofs.YtkcnahjgkhgebaaGreat
open Go.RowKit

/-- The place of the pocket of holes in which it is gathered. -/
def placeI (u m : Int) : Int := idxP (fun k : Int => k == pocketI u m) (ordI m)
theorem ordI_mem (u : Int) {m : Int} (hm : m = 1 ∨ m = 2) : pocketI u m ∈ ordI m := by
  have h := pkt_ord [u] 0 hm
  obtain ⟨k, hk, hkp⟩ := List.any_eq_true.1 h
  have e : pkt [u] 0 m = pocketI u m := rfl
  rw [e] at hkp
  simp only [beq_iff_eq] at hkp
  unfold ordI
  exact List.mem_map.2 ⟨k, hk, hkp.symm⟩
theorem idxP_eq_iff {l : List Int} {a b : Int} (ha : a ∈ l) (hb : b ∈ l) : (idxP (fun k : Int => k == a) l = idxP (fun k : Int => k == b) l) ↔ a = b := by
  constructor
  · intro h
    have h1 : l.any (fun k : Int => k == a) = true := List.any_eq_true.2 ⟨a, ha, by simp⟩
    have h2 : l.any (fun k : Int => k == b) = true := List.any_eq_true.2 ⟨b, hb, by simp⟩
    unfold idxP at h
    rw [if_pos h1, if_pos h2] at h
    have l1 : l.findIdx (fun k : Int => k == a) < l.length := List.findIdx_lt_length_of_exists ⟨a, ha, by simp⟩
    have l2 : l.findIdx (fun k : Int => k == b) < l.length := List.findIdx_lt_length_of_exists ⟨b, hb, by simp⟩
    have g1 := List.findIdx_getElem (w := l1)
    have g2 := List.findIdx_getElem (w := l2)
    simp only [beq_iff_eq] at g1 g2
    have e : l.findIdx (fun k : Int => k == a) = l.findIdx (fun k : Int => k == b) := by omega
    rw [← g1, ← g2]
    simp only [e]
  · intro h
    rw [h]
theorem place_iff (x y : Int) {m : Int} (hm : m = 1 ∨ m = 2) : (placeI x m = placeI y m) ↔ pocketI x m = pocketI y m := idxP_eq_iff (ordI_mem x hm) (ordI_mem y hm)
theorem placeI_range (u m : Int) : -1 ≤ placeI u m ∧ placeI u m ≤ 11 := by
  unfold placeI idxP
  split
  · rename_i h
    obtain ⟨x, hx, hpx⟩ := List.any_eq_true.1 h
    have h1 := List.findIdx_lt_length_of_exists (p := fun k : Int => k == pocketI u m) ⟨x, hx, hpx⟩
    have h2 := ordN_len m
    rw [ordI_length] at h1
    omega
  · omega

/-- The last of the first k passes on the column in which two columns have different pockets; does the first come first in it? -/
def decN (ps : List (Int × Int)) (col x y : Int) : Nat → Int × Bool
  | 0 => (-1, false)
  | k + 1 => if (ps.getD k (0, 0)).1 = col ∧ pocketI x (ps.getD k (0, 0)).2 ≠ pocketI y (ps.getD k (0, 0)).2 then ((k : Int), decide (placeI x (ps.getD k (0, 0)).2 < placeI y (ps.getD k (0, 0)).2)) else decN ps col x y k
/-- The last of the first k passes on a later column. -/
def latN (ps : List (Int × Int)) (col : Int) : Nat → Int
  | 0 => -1
  | k + 1 => if col < (ps.getD k (0, 0)).1 then (k : Int) else latN ps col k
/-- Do the first k passes put two columns into their order? -/
def pairN (ps : List (Int × Int)) (col x y : Int) : Nat → Bool
  | 0 => false
  | k + 1 => if (ps.getD k (0, 0)).1 < col then pairN ps col x y k else if col < (ps.getD k (0, 0)).1 then false
      else if placeI x (ps.getD k (0, 0)).2 = placeI y (ps.getD k (0, 0)).2 then pairN ps col x y k else decide (placeI x (ps.getD k (0, 0)).2 < placeI y (ps.getD k (0, 0)).2)
theorem decN_lt (ps : List (Int × Int)) (col x y : Int) (k : Nat) : -1 ≤ (decN ps col x y k).1 ∧ (decN ps col x y k).1 < k := by
  induction k with
  | zero => simp [decN]
  | succ k ih =>
    unfold decN
    split
    · simp only; omega
    · omega
theorem latN_lt (ps : List (Int × Int)) (col : Int) (k : Nat) : -1 ≤ latN ps col k ∧ latN ps col k < k := by
  induction k with
  | zero => simp [latN]
  | succ k ih =>
    unfold latN
    split <;> omega
theorem pairN_eq (ps : List (Int × Int)) (col x y : Int) : ∀ k, k ≤ ps.length → (∀ p ∈ ps, p.2 = 1 ∨ p.2 = 2) →
    pairN ps col x y k = (decide (0 ≤ (decN ps col x y k).1) && ((decN ps col x y k).2 && decide (latN ps col k ≤ (decN ps col x y k).1)))
  | 0, _, _ => by simp [pairN, decN]
  | k + 1, hk, hm => by
    have ih := pairN_eq ps col x y k (by omega) hm
    have hd := decN_lt ps col x y k
    have hl := latN_lt ps col k
    have hmk : (ps.getD k (0, 0)).2 = 1 ∨ (ps.getD k (0, 0)).2 = 2 := by
      rw [show ps.getD k (0, 0) = ps[k]'(by omega) by simp [List.getD, show k < ps.length by omega]]
      exact hm _ (List.getElem_mem _)
    have hp := place_iff x y hmk
    unfold pairN decN latN
    generalize ps.getD k (0, 0) = p at *
    by_cases h1 : p.1 < col
    · rw [if_pos h1, if_neg (by omega), if_neg (by omega)]
      exact ih
    · rw [if_neg h1]
      by_cases h2 : col < p.1
      · rw [if_pos h2, if_pos h2, if_neg (by omega)]
        have : ¬ (k : Int) ≤ (decN ps col x y k).1 := by omega
        simp [this]
      · rw [if_neg h2, if_neg h2]
        by_cases h3 : placeI x p.2 = placeI y p.2
        · rw [if_pos h3, if_neg (fun h => h.2 (hp.1 h3))]
          exact ih
        · rw [if_neg h3, if_pos ⟨by omega, fun h => h3 (hp.2 h)⟩]
          have : latN ps col k ≤ (k : Int) := by omega
          simp [this]
def pairB (ps : List (Int × Int)) (col : Int) (i k : Nat) : Bool := pairN ps col (codeV (charL.getD i 0).toNat) (codeV (charL.getD k 0).toNat) ps.length
/-- All pairs i < k' of the characters with k' < k. -/
def rowB (ps : List (Int × Int)) (col : Int) (i k : Nat) : Bool := (List.range k).all fun j => decide (j ≤ i) || pairB ps col i j
def colB (ps : List (Int × Int)) (col : Int) (i : Nat) : Bool := (List.range i).all fun j => rowB ps col j 40
def fldB (ps : List (Int × Int)) (a : Int) (n : Nat) : Bool := (List.range n).all fun j => colB ps (a + (j : Int)) 40
def inB (ps : List (Int × Int)) (a b : Int) : Bool := ps.all fun p => insideB p.1 a (b - 1)
def alwB (ps : List (Int × Int)) (a b : Int) : Bool := inB ps a b && fldB ps a (b - a).toNat
theorem all_range_succ (p : Nat → Bool) (n : Nat) : (List.range (n + 1)).all p = ((List.range n).all p && p n) := by
  rw [List.range_succ, List.all_append]
  simp
theorem all_range_false {p : Nat → Bool} {n k : Nat} (hk : k < n) (h : p k = false) : (List.range n).all p = false := by
  rw [List.all_eq_false]
  exact ⟨k, List.mem_range.2 hk, by simp [h]⟩
theorem rowB_start (ps : List (Int × Int)) (col : Int) (i : Nat) : rowB ps col i (i + 1) = true := by
  unfold rowB
  rw [List.all_eq_true]
  intro j hj
  have := List.mem_range.1 hj
  simp
  omega
theorem rowB_yes {ps : List (Int × Int)} {col : Int} {i k : Nat} (h : rowB ps col i k = true) (hp : pairB ps col i k = true) : rowB ps col i (k + 1) = true := by
  unfold rowB at *
  rw [all_range_succ, h, hp]
  simp
theorem rowB_no {ps : List (Int × Int)} {col : Int} {i k : Nat} (hik : i < k) (hk : k < 40) (hp : pairB ps col i k = false) : rowB ps col i 40 = false := by
  unfold rowB
  refine all_range_false hk ?_
  rw [hp]
  simp
  omega
theorem colB_yes {ps : List (Int × Int)} {col : Int} {i : Nat} (h : colB ps col i = true) (hp : rowB ps col i 40 = true) : colB ps col (i + 1) = true := by
  unfold colB at *
  rw [all_range_succ, h, hp]
  rfl
theorem colB_no {ps : List (Int × Int)} {col : Int} {i : Nat} (hi : i < 40) (hp : rowB ps col i 40 = false) : colB ps col 40 = false := all_range_false hi hp
theorem fldB_yes {ps : List (Int × Int)} {a : Int} {n : Nat} (h : fldB ps a n = true) (hp : colB ps (a + (n : Int)) 40 = true) : fldB ps a (n + 1) = true := by
  unfold fldB at *
  rw [all_range_succ, h, hp]
  rfl
theorem fldB_no {ps : List (Int × Int)} {a : Int} {n j : Nat} (hj : j < n) (hp : colB ps (a + (j : Int)) 40 = false) : fldB ps a n = false := all_range_false hj hp
def alwC (ps : List (Int × Int)) (a b : Int) : Int := if fieldOk a b 20 = true then (if passesOk 20 ps = true then 0 else 2) else 2
def alwR (ps : List (Int × Int)) (a b : Int) : Bool := if alwC ps a b = 0 then alwB ps a b else false
end Go.Proofs.YtkcnahjgkhgebaaGreat
