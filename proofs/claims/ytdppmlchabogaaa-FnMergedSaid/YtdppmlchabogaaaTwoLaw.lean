/- Decks whose cards are all characters, of one width: no code but 0. No walk here. -/
import Derived.Test.YtdppmlchabogaaaA2
import Derived.Test.YtdppmlchabogaaaSrtLaw
import Derived.Test.YtdppmlchabogaaaMatchAll
namespace Go.Proofs.Ytdppmlchabogaaa
open Go.RowKit

section
variable {wd i j : Nat} {L M : List (List Int)}
theorem good_wide (h : GoodD wd L) (h2 : wd ≤ 20) : wd ≤ deckW L := by
  unfold deckW
  cases L with
  | nil => exact h2
  | cons x L =>
    rw [if_neg (by simp)]
    exact Nat.le_of_eq (h x (List.mem_cons_self ..)).1.symm
theorem good_field (h : GoodD wd L) (h2 : wd ≤ 20) (hij : i < j) (hj : j ≤ wd) : fieldOk (i : Int) (j : Int) (deckW L : Int) = true := by
  have := good_wide h h2
  exact fieldOk_mk (by omega) (by omega) (by omega)
theorem good_code2 (h : GoodD wd L) (h1 : 1 ≤ wd) (h2 : wd ≤ 20) (h3 : L.length ≤ 40) (hij : i < j) (hj : j ≤ wd) : codeK L (i : Int) (j : Int) = 0 :=
  codeK_0 (good_deck h h1 h2 h3).1 (good_field h h2 hij hj) (good_have h _ _)
theorem good_perm (h : GoodD wd L) (hp : M.Perm L) : GoodD wd M := fun x hx => h x (hp.mem_iff.1 hx)
theorem good_srt {a b : Int} (h : GoodD wd L) : GoodD wd (sortedL L a b) := good_perm h (sortedL_perm L a b)
theorem good_app (h : GoodD wd L) (k : GoodD wd M) : GoodD wd (L ++ M) := fun x hx => by
  rcases List.mem_append.1 hx with hx | hx
  · exact h x hx
  · exact k x hx
theorem good_sub (h : GoodD wd L) (hs : ∀ x ∈ M, x ∈ L) : GoodD wd M := fun x hx => h x (hs x hx)
theorem good_col {Ls : List (List (List Int))} {ts : List ByteArray} (h : ∀ L ∈ Ls, GoodD wd L ∧ L.length ≤ 40) (h1 : 1 ≤ wd) (h2 : wd ≤ 20) (hij : i < j) (hj : j ≤ wd) (ht : ∀ t ∈ ts, t.size = j - i ∧ chaB t = true) : colC Ls true ts (i : Int) (j : Int) = 0 := by
  have e1 : Ls.all deckOk = true := List.all_eq_true.2 fun L hL => (good_deck (h L hL).1 h1 h2 (h L hL).2).1
  have e2 : Ls.all (fun L => fieldOk (i : Int) (j : Int) (deckW L : Int)) = true := List.all_eq_true.2 fun L hL => good_field (h L hL).1 h2 hij hj
  have e3 : ts.all (lenB (i : Int) (j : Int)) = true := List.all_eq_true.2 fun t ht' => by
    have := (ht t ht').1
    unfold lenB
    simp
    omega
  have e4 : ts.all chaB = true := List.all_eq_true.2 fun t ht' => (ht t ht').2
  have e5 : Ls.all (fun L => haveF L (i : Int) (j : Int)) = true := List.all_eq_true.2 fun L hL => good_have (h L hL).1 _ _
  unfold colC
  rw [if_pos e1, if_pos rfl, if_pos e2, if_pos e3, if_pos e4, if_pos e5]
theorem good_steps (h : GoodD wd L) (h1 : 1 ≤ wd) (h2 : wd ≤ 20) (h3 : L.length ≤ 40) (hij : i < j) (hj : j ≤ wd) : (stepsL (sortedL L (i : Int) (j : Int)) (i : Int) (j : Int) (sortedL L (i : Int) (j : Int)).length).length = 0 :=
  srt_sorted (good_deck h h1 h2 h3).1 hij (Nat.le_trans hj (good_wide h h2))
theorem good_two (h : GoodD wd L) (k : GoodD wd M) (h1 : 1 ≤ wd) (h2 : wd ≤ 20) (h3 : L.length ≤ 40) (k3 : M.length ≤ 40) (hij : i < j) (hj : j ≤ wd) : colC [L, M] true [] (i : Int) (j : Int) = 0 := by
  refine good_col (fun X hX => ?_) h1 h2 hij hj (by simp)
  simp only [List.mem_cons, List.mem_nil_iff, or_false] at hX
  rcases hX with rfl | rfl
  · exact ⟨h, h3⟩
  · exact ⟨k, k3⟩
theorem good_clash (h : GoodD wd L) (k : GoodD wd M) : clashB L M = false := by
  unfold clashB
  by_cases h0 : 0 < L.length ∧ 0 < M.length
  · have e1 : deckW L = wd := by
      unfold deckW; rw [if_neg (by omega)]
      cases L with
      | nil => simp at h0
      | cons x L => exact (h x (List.mem_cons_self ..)).1
    have e2 : deckW M = wd := by
      unfold deckW; rw [if_neg (by omega)]
      cases M with
      | nil => simp at h0
      | cons x M => exact (k x (List.mem_cons_self ..)).1
    rw [e1, e2]
    simp
  · rcases Nat.eq_zero_or_pos L.length with h1 | h1
    · rw [h1]; simp
    · rw [show M.length = 0 by omega]; simp
end
end Go.Proofs.Ytdppmlchabogaaa
