/- Passes that part nothing may be left out; the least plan has none that may. No walk here. -/
import Derived.Test.YtkcnahjgkhgebaaGreatFewest
namespace Go.Proofs.YtkcnahjgkhgebaaGreat
open Go.RowKit

/-- All cards have one pocket. -/
theorem idle_iff {L : List (List Int)} {i : Nat} {b : Int} : idleB L i b = true ↔ ∀ x ∈ L, ∀ y ∈ L, pkt x i b = pkt y i b := by
  unfold idleB
  cases L with
  | nil => simp
  | cons h t =>
    rw [Bool.not_eq_true', List.any_eq_false]
    constructor
    · intro hh x hx y hy
      have h1 := hh x hx
      have h2 := hh y hy
      simp only [List.headD_cons, bne_iff_ne, ne_eq, Decidable.not_not] at h1 h2
      rw [h1, h2]
    · intro hh x hx
      simp only [List.headD_cons, bne_iff_ne, ne_eq, Decidable.not_not]
      exact hh x hx h (List.mem_cons_self ..)
theorem idle_perm {L M : List (List Int)} (h : M.Perm L) {i : Nat} {b : Int} (hi : idleB L i b = true) : idleB M i b = true :=
  idle_iff.2 fun x hx y hy => idle_iff.1 hi x (h.mem_iff.1 hx) y (h.mem_iff.1 hy)
/-- One pocket alone is full: gathering gives the deck. -/
theorem one_part {α : Type} (f : α → Int) (L : List α) (v : Int) (hv : ∀ x ∈ L, f x = v) : ∀ (ks : List Nat), ks.Nodup → (ks.any fun (k : Nat) => v == (k : Int)) = true → (ks.flatMap fun (k : Nat) => L.filter fun x => f x == (k : Int)) = L
  | [], _, h => by simp at h
  | k :: ks, hn, h => by
    obtain ⟨h1, h2⟩ := List.nodup_cons.1 hn
    have hf : ∀ m : Nat, (L.filter fun x => f x == (m : Int)) = if v = (m : Int) then L else [] := by
      intro m
      by_cases e : v = (m : Int)
      · rw [if_pos e, List.filter_eq_self]
        intro x hx
        simp [hv x hx, e]
      · rw [if_neg e, List.filter_eq_nil_iff]
        intro x hx
        simp [hv x hx, e]
    rw [List.flatMap_cons, hf k]
    by_cases e : v = (k : Int)
    · rw [if_pos e]
      have : (ks.flatMap fun (m : Nat) => L.filter fun x => f x == (m : Int)) = [] := by
        rw [List.flatMap_eq_nil_iff]
        intro m hm
        rw [hf m, if_neg]
        intro e2
        have : m = k := by omega
        subst this
        exact h1 hm
      rw [this, List.append_nil]
    · rw [if_neg e, List.nil_append]
      refine one_part f L v hv ks h2 ?_
      have : (v == (k : Int)) = false := beq_eq_false_iff_ne.2 e
      simpa [List.any_cons, this] using h
theorem runP_idle {L : List (List Int)} {p : Int × Int} (hp : p.2 = 1 ∨ p.2 = 2) (hi : idleP L p = true) : runP L p = L := by
  unfold runP
  rw [gath_sort]
  unfold pocketL
  cases L with
  | nil =>
    rw [List.flatMap_eq_nil_iff]
    intro m _
    rfl
  | cons h t =>
    exact one_part (fun x => pkt x p.1.toNat p.2) (h :: t) (pkt h p.1.toNat p.2) (fun x hx => idle_iff.1 hi x hx h (List.mem_cons_self ..)) _ (ordN_nodup _) (pkt_ord _ _ hp)
theorem runP_perm' (L : List (List Int)) {p : Int × Int} (h : p.2 = 1 ∨ p.2 = 2) : (runP L p).Perm L := runP_perm L h
theorem runL_skip {ps : List (Int × Int)} : ∀ {L M : List (List Int)}, (∀ p ∈ ps, p.2 = 1 ∨ p.2 = 2) → M.Perm L → runL M (keep (idleP L) ps) = runL M ps := by
  induction ps with
  | nil => intro L M _ _; rfl
  | cons p ps ih =>
    intro L M hm hM
    have hp := hm p (List.mem_cons_self ..)
    have hms : ∀ q ∈ ps, q.2 = 1 ∨ q.2 = 2 := fun q hq => hm q (List.mem_cons_of_mem _ hq)
    have e2 : runL M (p :: ps) = runL (runP M p) ps := rfl
    rw [e2]
    by_cases h : idleP L p = true
    · have e1 : keep (idleP L) (p :: ps) = keep (idleP L) ps := by unfold keep; rw [List.filter_cons]; simp [h]
      rw [e1, runP_idle hp (idle_perm hM h)]
      exact ih hms hM
    · have e1 : keep (idleP L) (p :: ps) = p :: keep (idleP L) ps := by unfold keep; rw [List.filter_cons]; simp [h]
      rw [e1]
      exact ih hms ((runP_perm M hp).trans hM)
/-- A pass that parts nothing, struck out. -/
theorem runL_erase {L : List (List Int)} : ∀ {ps : List (Int × Int)} {M : List (List Int)} {k : Nat} (hk : k < ps.length), (∀ p ∈ ps, p.2 = 1 ∨ p.2 = 2) → M.Perm L → idleP L ps[k] = true → runL M (ps.take k ++ ps.drop (k + 1)) = runL M ps
  | [], M, k, hk, _, _, _ => by simp at hk
  | p :: ps, M, 0, hk, hm, hM, hi => by
    have hp := hm p (List.mem_cons_self ..)
    have e2 : runL M (p :: ps) = runL (runP M p) ps := rfl
    rw [e2, runP_idle hp (idle_perm hM hi)]
    rfl
  | p :: ps, M, k + 1, hk, hm, hM, hi => by
    have hp := hm p (List.mem_cons_self ..)
    have hms : ∀ q ∈ ps, q.2 = 1 ∨ q.2 = 2 := fun q hq => hm q (List.mem_cons_of_mem _ hq)
    exact runL_erase (ps := ps) (M := runP M p) (k := k) (by simpa using hk) hms ((runP_perm M hp).trans hM) (by simpa using hi)
section
variable {L : List (List Int)} {i j : Nat}
theorem short_pick (L : List (List Int)) (al : List (Int × Int)) : pickP al ((List.range al.length).filter fun k => !idleP L (al.getD k (0, 0))) = keep (idleP L) al := by
  have h := pickP_all al
  unfold pickP at h ⊢
  unfold keep
  conv => rhs; rw [← h]
  rw [List.filter_map]
  rfl
theorem filter_asc (n : Nat) (p : Nat → Bool) : Asc n 0 ((List.range n).filter p) :=
  ⟨List.pairwise_lt_range.sublist List.filter_sublist, fun x hx => ⟨Nat.zero_le _, List.mem_range.1 (List.mem_filter.1 hx).1⟩⟩
theorem short_sorts (hc : codeK L (i : Int) (j : Int) = 0) (hij : i < j) : runL L (shortRes L (i : Int) (j : Int)) = sortedL L (i : Int) (j : Int) := by
  obtain ⟨h1, h2, h3⟩ := codeK_zero hc
  have h4 := (fieldOk_true h2).2.2
  have e : ((j : Int) - (i : Int)).toNat = j - i := by omega
  rw [shortRes_0 hc, e, runL_skip (planOf_modes _ _) (List.Perm.refl _)]
  exact full_sorts h1 hij (by omega) h3
theorem few_short (hc : codeK L (i : Int) (j : Int) = 0) (hij : i < j) (h4 : ¬ (4 : Int) < (j : Int) - (i : Int)) : (fewR L (i : Int) (j : Int)).length ≤ (shortRes L (i : Int) (j : Int)).length := by
  have e : ((j : Int) - (i : Int)).toNat = j - i := by omega
  have hl := few_least hc hij
  have hs := short_sorts hc hij
  rw [(fewC_0 hc h4).2, e, pickP_length]
  rw [shortRes_0 hc, e, ← short_pick] at hs ⊢
  rw [pickP_length]
  have := hl.least _ (filter_asc _ _) (by unfold gdP; rw [List.nil_append]; exact decide_eq_true hs)
  unfold Bt at this
  omega
theorem few_ok (hc : codeK L (i : Int) (j : Int) = 0) (hij : i < j) (h4 : ¬ (4 : Int) < (j : Int) - (i : Int)) : runL L (fewR L (i : Int) (j : Int)) = sortedL L (i : Int) (j : Int) := by
  have e : ((j : Int) - (i : Int)).toNat = j - i := by omega
  have hl := (few_least hc hij).ok
  rw [(fewC_0 hc h4).2, e]
  unfold gdP at hl
  rw [List.nil_append] at hl
  exact of_decide_eq_true hl
theorem few_mem (hc : codeK L (i : Int) (j : Int) = 0) (hij : i < j) (h4 : ¬ (4 : Int) < (j : Int) - (i : Int)) {q : Int × Int} (hq : q ∈ fewR L (i : Int) (j : Int)) : q ∈ planOf (j : Int) (j - i) := by
  have e : ((j : Int) - (i : Int)).toNat = j - i := by omega
  rw [(fewC_0 hc h4).2, e] at hq
  obtain ⟨x, hx, rfl⟩ := List.mem_map.1 hq
  have := ((few_least hc hij).asc.2 x hx).2
  rw [List.getD, List.getElem?_eq_getElem this]
  exact List.getElem_mem this
theorem take_drop_asc {n : Nat} {c : List Nat} (h : Asc n 0 c) (k : Nat) : Asc n 0 (c.take k ++ c.drop (k + 1)) := by
  have hs : (c.take k ++ c.drop (k + 1)).Sublist c := by
    conv => rhs; rw [← List.take_append_drop k c]
    refine List.Sublist.append (List.Sublist.refl _) ?_
    rw [show c.drop (k + 1) = (c.drop k).drop 1 by rw [List.drop_drop]]
    exact List.drop_sublist 1 _
  exact ⟨h.1.sublist hs, fun x hx => h.2 x (hs.mem hx)⟩
/-- Without one of them it is not sorted. -/
theorem few_less (hc : codeK L (i : Int) (j : Int) = 0) (hij : i < j) (h4 : ¬ (4 : Int) < (j : Int) - (i : Int)) {k : Nat} (hk : k < (fewR L (i : Int) (j : Int)).length) :
    runL L ((fewR L (i : Int) (j : Int)).take k ++ (fewR L (i : Int) (j : Int)).drop (k + 1)) ≠ sortedL L (i : Int) (j : Int) := by
  have e : ((j : Int) - (i : Int)).toNat = j - i := by omega
  rw [(fewC_0 hc h4).2, e] at hk ⊢
  intro hr
  have hl := few_least hc hij
  have e2 : (pickP (planOf (j : Int) (j - i)) (fewN L (i : Int) (j : Int))).take k ++ (pickP (planOf (j : Int) (j - i)) (fewN L (i : Int) (j : Int))).drop (k + 1) = pickP (planOf (j : Int) (j - i)) ((fewN L (i : Int) (j : Int)).take k ++ (fewN L (i : Int) (j : Int)).drop (k + 1)) := by
    unfold pickP
    rw [List.map_append, List.map_take, List.map_drop]
  rw [e2] at hr
  have := hl.least _ (take_drop_asc hl.asc k) (by unfold gdP; rw [List.nil_append]; exact decide_eq_true hr)
  rw [pickP_length] at hk
  unfold Bt at this
  rw [List.length_append, List.length_take, List.length_drop] at this
  omega
theorem few_busy (hc : codeK L (i : Int) (j : Int) = 0) (hij : i < j) (h4 : ¬ (4 : Int) < (j : Int) - (i : Int)) {k : Nat} (hk : k < (fewR L (i : Int) (j : Int)).length) : idleP L (fewR L (i : Int) (j : Int))[k] = false := by
  cases h : idleP L (fewR L (i : Int) (j : Int))[k] with
  | false => rfl
  | true =>
    refine absurd ?_ (few_less hc hij h4 hk)
    rw [runL_erase hk (fun p hp => planOf_modes _ _ p (few_mem hc hij h4 hp)) (List.Perm.refl _) h]
    exact few_ok hc hij h4
end
end Go.Proofs.YtkcnahjgkhgebaaGreat
