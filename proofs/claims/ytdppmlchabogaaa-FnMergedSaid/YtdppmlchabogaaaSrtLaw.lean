/- Sorted decks: they are in order, equal ones in the order of their places. No walk here. -/
import Derived.Test.YtdppmlchabogaaaSortedBy
import Derived.Test.YtdppmlchabogaaaMergeLaw
import Derived.Test.YtdppmlchabogaaaRunLaw
import Derived.Test.YtdppmlchabogaaaKeysAll
namespace Go.Proofs.Ytdppmlchabogaaa
open Go.RowKit

theorem srt_at {L : List (List Int)} {a b : Int} {k q : Nat} (hk : k < L.length) (hq : (ordL L a b)[k]? = some (q : Int)) : (sortedL L a b)[k]? = L[q]? := by
  unfold sortedL
  rw [List.getElem?_map, hq]
  obtain ⟨p, hp, hpl⟩ := ordL_mem (List.mem_of_getElem? hq)
  have : q = p := by omega
  subst this
  simp [List.getD, hpl]
theorem ord_at {L : List (List Int)} (a b : Int) {k : Nat} (h : k < L.length) : ∃ q : Nat, (ordL L a b)[k]? = some (q : Int) ∧ q < L.length := by
  obtain ⟨q, hq, hl⟩ := ordL_at L a b h
  exact ⟨q, by rw [List.getElem?_eq_getElem (by rw [ordL_length]; exact h), hq], hl⟩
theorem ord_nodup (L : List (List Int)) (a b : Int) : (ordL L a b).Nodup := by
  have h := plL_perm (keyZ L a b) L.length
  refine h.nodup_iff.2 ?_
  unfold rowF
  exact List.Pairwise.map _ (fun x y hxy e => hxy (by omega)) List.nodup_range
theorem srt_perm (L : List (List Int)) (a b : Int) : (sortedL L a b).Perm L := sortedL_perm L a b

section
variable {L : List (List Int)} {i j : Nat}
theorem srt_rk {a b : Int} {p q : Nat} {x y : Int} (hpq : p < q) (hx : (ordL L a b)[p]? = some x) (hy : (ordL L a b)[q]? = some y) : Rk (keyZ L a b) x y := by
  obtain ⟨hp, rfl⟩ := List.getElem?_eq_some_iff.1 hx
  obtain ⟨hq, rfl⟩ := List.getElem?_eq_some_iff.1 hy
  exact List.pairwise_iff_getElem.1 (plL_sorted (keyZ L a b) L.length) p q hp hq hpq
/-- Two places of the order, the one behind the other. -/
theorem srt_two (hok : deckOk L = true) (hij : i < j) (hj : j ≤ deckW L) {p q x y : Nat} (hpq : p < q) (hx : (ordL L (i : Int) (j : Int))[p]? = some (x : Int)) (hy : (ordL L (i : Int) (j : Int))[q]? = some (y : Int)) :
    ¬ cmpC L (i : Int) (j : Int) y x < 0 ∧ (cmpC L (i : Int) (j : Int) x y < 0 ∨ (cmpC L (i : Int) (j : Int) x y = 0 ∧ x < y)) := by
  have hr := srt_rk hpq hx hy
  obtain ⟨x', ex, hxl⟩ := ordL_mem (List.mem_of_getElem? hx)
  obtain ⟨y', ey, hyl⟩ := ordL_mem (List.mem_of_getElem? hy)
  obtain rfl : x = x' := by omega
  obtain rfl : y = y' := by omega
  have h1 := keyZ_cmp hok hij hj hxl hyl
  have h2 := keyZ_cmp hok hij hj hyl hxl
  unfold Rk at hr
  constructor
  · rw [h2.1]; omega
  · rcases hr with hr | ⟨hr, hr2⟩
    · exact .inl (h1.1.2 hr)
    · exact .inr ⟨h1.2.2 hr, by omega⟩
theorem cmpC_srt {a b : Int} {p q x y : Nat} (hx : (ordL L a b)[p]? = some (x : Int)) (hy : (ordL L a b)[q]? = some (y : Int)) : cmpC (sortedL L a b) a b p q = cmpC L a b x y := by
  have hp : p < L.length := by have := (List.getElem?_eq_some_iff.1 hx).1; rwa [ordL_length] at this
  have hq : q < L.length := by have := (List.getElem?_eq_some_iff.1 hy).1; rwa [ordL_length] at this
  unfold cmpC
  rw [List.getD, srt_at hp hx, List.getD, srt_at hq hy]
  rfl
theorem srt_steps (hok : deckOk L = true) (hij : i < j) (hj : j ≤ deckW L) : ∀ n, n ≤ L.length → stepsL (sortedL L (i : Int) (j : Int)) (i : Int) (j : Int) n = []
  | 0, _ => stepsL_zero ..
  | n + 1, hn => by
    have ih := srt_steps hok hij hj n (by omega)
    by_cases h0 : n = 0
    · subst h0; exact stepsL_one ..
    · obtain ⟨x, hx, _⟩ := ord_at (L := L) (i : Int) (j : Int) (show n - 1 < L.length by omega)
      obtain ⟨y, hy, _⟩ := ord_at (L := L) (i : Int) (j : Int) (show n < L.length by omega)
      rw [stepsL_no, ih]
      rw [cmpC_srt hy hx]
      exact (srt_two hok hij hj (by omega) hx hy).1
theorem srt_sorted (hok : deckOk L = true) (hij : i < j) (hj : j ≤ deckW L) : (stepsL (sortedL L (i : Int) (j : Int)) (i : Int) (j : Int) (sortedL L (i : Int) (j : Int)).length).length = 0 := by
  rw [srt_steps hok hij hj _ (by rw [sortedL_length]; exact Nat.le_refl _)]
  rfl
end
theorem haveF_perm {L M : List (List Int)} {a b : Int} (h : L.Perm M) (hv : haveF M a b = true) : haveF L a b = true :=
  List.all_eq_true.2 fun x hx => List.all_eq_true.1 hv x (h.mem_iff.1 hx)
theorem codeK_parts {L : List (List Int)} {a b : Int} (h : codeK L a b = 0) : deckOk L = true ∧ fieldOk a b (deckW L : Int) = true ∧ haveF L a b = true := by
  unfold codeK at h
  by_cases h1 : deckOk L = true
  · rw [if_pos h1] at h
    by_cases h2 : fieldOk a b (deckW L : Int) = true
    · rw [if_pos h2] at h
      by_cases h3 : haveF L a b = true
      · exact ⟨h1, h2, h3⟩
      · rw [if_neg h3] at h; cases h
    · rw [if_neg h2] at h; cases h
  · rw [if_neg h1] at h; cases h
theorem codeK_perm {L M : List (List Int)} {a b : Int} (h : L.Perm M) (hc : codeK M a b = 0) : codeK L a b = 0 := by
  obtain ⟨h1, h2, h3⟩ := codeK_parts hc
  exact codeK_0 (deckOk_perm h h1) (by rw [deckW_perm h h1]; exact h2) (haveF_perm h h3)
theorem srt_code {L : List (List Int)} {a b : Int} (hc : codeK L a b = 0) : codeK (sortedL L a b) a b = 0 := codeK_perm (sortedL_perm L a b) hc
theorem srt_yes {L : List (List Int)} {i j : Nat} (hij : i < j) (hc : codeK L (i : Int) (j : Int) = 0) : srtRes (sortedL L (i : Int) (j : Int)) (i : Int) (j : Int) = true := by
  obtain ⟨h1, h2, _⟩ := codeK_parts hc
  have h4 := (fieldOk_true h2).2.2
  rw [srtRes_0 (srt_code hc)]
  exact decide_eq_true (srt_sorted h1 hij (by omega))
/-- Sorted, and no first step: the same. -/
theorem srt_fst {L : List (List Int)} {a b : Int} (hc : codeK L a b = 0) : srtRes L a b = (fstRes L a b == -1) := by
  rw [srtRes_0 hc, fstRes_0 hc]
  unfold stepF
  cases h : stepsL L a b L.length with
  | nil => rfl
  | cons z t =>
    have hz : z ∈ stepsL L a b L.length := by rw [h]; exact List.mem_cons_self ..
    unfold stepsL at hz
    obtain ⟨k, _, rfl⟩ := List.mem_map.1 hz
    simp
end Go.Proofs.Ytdppmlchabogaaa
