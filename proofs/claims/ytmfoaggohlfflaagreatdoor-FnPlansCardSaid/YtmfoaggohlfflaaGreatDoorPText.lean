/- PassText: the reference's (l07Text, PassText) and the program's (strings.Join). -/
import Derived.Test.YtmfoaggohlfflaaGreatDoorDec
import Derived.Test.YtmfoaggohlfflaaGreatDoorPasses
namespace Go.Proofs.YtmfoaggohlfflaaGreatDoor
open Go.RowKit

/-! ### plain laws -/
def inC (z : Int) : Prop := -9223372036854775808 ≤ z ∧ z ≤ 9223372036854775807
def ptok (p : Int × Int) : List UInt8 := Lib.itoa p.1 ++ [if p.2 = 1 then 100 else 122]
def ptoks (xs : List (Int × Int)) : List (List UInt8) := xs.map ptok
def ptJ (xs : List (Int × Int)) : List UInt8 := Lib.join (ptoks xs) [32]
def modesOk (xs : List (Int × Int)) : Bool := xs.all fun p => modeB p.2
def passT (xs : List (Int × Int)) : List UInt8 := if modesOk xs = true then ptJ xs else []
theorem join_snoc (L : List (List UInt8)) (x sep : List UInt8) : Lib.join (L ++ [x]) sep = if L = [] then x else Lib.join L sep ++ sep ++ x := by
  cases L with
  | nil => simp [Lib.join_one]
  | cons y L => rw [if_neg (by simp), List.cons_append, Lib.join_cons, Lib.join_cons]; simp [Lib.joinTail]
theorem ptJ_first (xs : List (Int × Int)) (h : 0 < xs.length) : ptJ (xs.take (0 + 1)) = ptok xs[0] := by
  unfold ptJ ptoks
  rw [List.take_succ_eq_append_getElem h]
  simp [Lib.join_one]
theorem ptJ_next (xs : List (Int × Int)) (k : Nat) (h : k < xs.length) (h0 : ¬ k = 0) : ptJ (xs.take (k + 1)) = ptJ (xs.take k) ++ [32] ++ ptok xs[k] := by
  unfold ptJ ptoks
  rw [List.take_succ_eq_append_getElem h, List.map_append, List.map_cons, List.map_nil, join_snoc, if_neg]
  intro e
  have := congrArg List.length e
  simp only [List.length_map, List.length_take, List.length_nil] at this
  omega
theorem ptok_short {p : Int × Int} (h : inC p.1) : (ptok p).length ≤ 22 := by
  unfold ptok
  have := itoa_short h.1 h.2
  simp
  omega
theorem ptJ_short (xs : List (Int × Int)) (hc : ∀ p ∈ xs, inC p.1) : ∀ k, k ≤ xs.length → (ptJ (xs.take k)).length ≤ 23 * k
  | 0, _ => by simp [ptJ, ptoks, Lib.join_nil]
  | k + 1, h => by
    have hk : k < xs.length := by omega
    have h1 := ptok_short (hc _ (List.getElem_mem hk))
    have h2 := ptJ_short xs hc k (by omega)
    by_cases h0 : k = 0
    · subst h0
      rw [ptJ_first xs hk]; omega
    · rw [ptJ_next xs k hk h0]
      simp
      omega
theorem bs_size (s : List UInt8) : (bs_ s).size = s.length := by simp [bs_, ByteArray.size]

theorem passT_yes {xs : List (Int × Int)} (h : modesOk xs = true) : passT xs = ptJ xs := by unfold passT; rw [if_pos h]
theorem passT_no {xs : List (Int × Int)} (h : modesOk xs = false) : passT xs = [] := by unfold passT; rw [if_neg (by simp [h])]
theorem modes_bad {xs : List (Int × Int)} {k : Nat} (h : k < xs.length) (hb : modeB xs[k].2 = false) : modesOk xs = false := List.all_eq_false.2 ⟨xs[k], List.getElem_mem h, by simp [hb]⟩
theorem modes_all {xs : List (Int × Int)} (h : ∀ j (hj : j < xs.length), modeB xs[j].2 = true) : modesOk xs = true := List.all_eq_true.2 fun p hp => by
  obtain ⟨j, hj, rfl⟩ := List.getElem_of_mem hp
  exact h j hj

end Go.Proofs.YtmfoaggohlfflaaGreatDoor
