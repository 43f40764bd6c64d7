/- A sorted deck parts into the cards below a text, those that have it, and the others. No walk here. -/
import Derived.Test.YtdppmlchabogaaaSrtLaw
import Derived.Test.YtdppmlchabogaaaFind
namespace Go.Proofs.Ytdppmlchabogaaa
open Go.RowKit

theorem three_parts {α : Type} (g : α → Int) (c : Int) : ∀ {L : List α}, L.Pairwise (fun x y => g x ≤ g y) → L = L.filter (fun x => decide (g x < c)) ++ (L.filter (fun x => decide (g x = c)) ++ L.filter (fun x => decide (c < g x)))
  | [], _ => rfl
  | x :: L, h => by
    obtain ⟨hx, hL⟩ := List.pairwise_cons.1 h
    have ih := three_parts g c hL
    rcases Int.lt_trichotomy (g x) c with h1 | h1 | h1
    · rw [List.filter_cons, if_pos (by simpa using h1), List.filter_cons, if_neg (by simp; omega), List.filter_cons, if_neg (by simp; omega), List.cons_append]
      exact congrArg (x :: ·) ih
    · have e1 : L.filter (fun x => decide (g x < c)) = [] := List.filter_eq_nil_iff.2 fun y hy => by have := hx y hy; simp; omega
      rw [e1, List.nil_append] at ih
      rw [List.filter_cons, if_neg (by simp; omega), e1, List.nil_append, List.filter_cons, if_pos (by simpa using h1), List.filter_cons, if_neg (by simp; omega), List.cons_append]
      exact congrArg (x :: ·) ih
    · have e1 : L.filter (fun x => decide (g x < c)) = [] := List.filter_eq_nil_iff.2 fun y hy => by have := hx y hy; simp; omega
      have e2 : L.filter (fun x => decide (g x = c)) = [] := List.filter_eq_nil_iff.2 fun y hy => by have := hx y hy; simp; omega
      rw [e1, e2, List.nil_append, List.nil_append] at ih
      rw [List.filter_cons, if_neg (by simp; omega), e1, List.nil_append, List.filter_cons, if_neg (by simp; omega), e2, List.nil_append, List.filter_cons, if_pos (by simpa using h1)]
      exact congrArg (x :: ·) ih
/-- The number of a card's field. -/
def keyN (a b : Int) (x : List Int) : Int := numK ((part x a b).map rankM)
theorem keyN_pair {L : List (List Int)} {i j : Nat} (hok : deckOk L = true) (hij : i < j) (hj : j ≤ deckW L) (hs : (stepsL L (i : Int) (j : Int) L.length).length = 0) : L.Pairwise (fun x y => keyN (i : Int) (j : Int) x ≤ keyN (i : Int) (j : Int) y) := by
  rw [List.pairwise_iff_getElem]
  intro p q hp hq hpq
  have h := steps_keys hok hij hj hs hpq hq
  unfold keyZ at h
  simp only [Int.toNat_natCast] at h
  rw [show L.getD p [] = L[p] by simp [List.getD, hp], show L.getD q [] = L[q] by simp [List.getD, hq]] at h
  unfold keyN
  omega
section
variable {L : List (List Int)} {i j k : Nat}
/-- Comparing a card's field with the text of a card of the deck. -/
theorem sel_cmp (hc : codeK L (i : Int) (j : Int) = 0) (hij : i < j) (hk : k < L.length) {x : List Int} (hx : x ∈ L) :
    (cmpT (textL (part x (i : Int) (j : Int))) (textL (part L[k] (i : Int) (j : Int))) < 0 ↔ keyN (i : Int) (j : Int) x < keyN (i : Int) (j : Int) L[k]) ∧
    (cmpT (textL (part x (i : Int) (j : Int))) (textL (part L[k] (i : Int) (j : Int))) = 0 ↔ keyN (i : Int) (j : Int) x = keyN (i : Int) (j : Int) L[k]) := by
  obtain ⟨h1, h2, h3⟩ := codeK_parts hc
  have hj : j ≤ deckW L := by have := (fieldOk_true h2).2.2; omega
  obtain ⟨q, hq, rfl⟩ := List.mem_iff_getElem.1 hx
  rw [cmpT_text (List.all_eq_true.1 h3 _ hx) (List.all_eq_true.1 h3 _ (List.getElem_mem hk))]
  unfold cmpR keyN
  exact cmpN_num _ _ (by rw [List.length_map, List.length_map, (part_deck h1 hij hj hq).1, (part_deck h1 hij hj hk).1]) rank_mem rank_mem
theorem sel_low (hc : codeK L (i : Int) (j : Int) = 0) (hij : i < j) (hk : k < L.length) : L.filter (lowP (bs_ (textL (part L[k] (i : Int) (j : Int)))) (i : Int) (j : Int)) = L.filter (fun x => decide (keyN (i : Int) (j : Int) x < keyN (i : Int) (j : Int) L[k])) := by
  refine List.filter_congr fun x hx => ?_
  unfold lowP
  rw [byt_bs]
  have h := (sel_cmp hc hij hk hx).1
  have h3 := cmpN_three ((textL (part x (i : Int) (j : Int))).map rankC) ((textL (part L[k] (i : Int) (j : Int))).map rankC)
  change cmpT _ _ = -1 ∨ cmpT _ _ = 0 ∨ cmpT _ _ = 1 at h3
  rw [decide_eq_decide, ← h]
  omega
theorem sel_eq (hc : codeK L (i : Int) (j : Int) = 0) (hij : i < j) (hk : k < L.length) : L.filter (eqlP (bs_ (textL (part L[k] (i : Int) (j : Int)))) (i : Int) (j : Int)) = L.filter (fun x => decide (keyN (i : Int) (j : Int) x = keyN (i : Int) (j : Int) L[k])) := by
  refine List.filter_congr fun x hx => ?_
  unfold eqlP
  rw [byt_bs, decide_eq_decide]
  exact (sel_cmp hc hij hk hx).2
theorem sel_keep (hc : codeK L (i : Int) (j : Int) = 0) (hij : i < j) (hk : k < L.length) : keep (selB (bs_ (textL (part L[k] (i : Int) (j : Int)))) (bs_ (textL (part L[k] (i : Int) (j : Int)))) (i : Int) (j : Int)) L = L.filter (fun x => decide (keyN (i : Int) (j : Int) x = keyN (i : Int) (j : Int) L[k])) := by
  unfold keep
  refine List.filter_congr fun x hx => ?_
  unfold selB
  rw [byt_bs]
  have h := (sel_cmp hc hij hk hx).2
  by_cases e : cmpT (textL (part x (i : Int) (j : Int))) (textL (part L[k] (i : Int) (j : Int))) = 0
  · rw [decide_eq_true (h.1 e), e]
    rfl
  · rw [decide_eq_false (fun x => e (h.2 x))]
    have : cmpT (textL (part x (i : Int) (j : Int))) (textL (part L[k] (i : Int) (j : Int))) < 0 ∨ 0 < cmpT (textL (part x (i : Int) (j : Int))) (textL (part L[k] (i : Int) (j : Int))) := by omega
    simp
    omega
/-- Where the cards with the text lie. -/
theorem sel_place (hc : codeK L (i : Int) (j : Int) = 0) (hij : i < j) (hs : (stepsL L (i : Int) (j : Int) L.length).length = 0) (hk : k < L.length) {at_ n : Nat} (ha : at_ = (L.filter (fun x => decide (keyN (i : Int) (j : Int) x < keyN (i : Int) (j : Int) L[k]))).length) (hn : n = (L.filter (fun x => decide (keyN (i : Int) (j : Int) x = keyN (i : Int) (j : Int) L[k]))).length) :
    at_ + n ≤ L.length ∧ at_ ≤ k ∧ k < at_ + n ∧ ∀ q, q < n → (L.filter (fun x => decide (keyN (i : Int) (j : Int) x = keyN (i : Int) (j : Int) L[k])))[q]? = L[at_ + q]? := by
  obtain ⟨h1, h2, _⟩ := codeK_parts hc
  have hj : j ≤ deckW L := by have := (fieldOk_true h2).2.2; omega
  have hp := keyN_pair h1 hij hj hs
  have e := three_parts (keyN (i : Int) (j : Int)) (keyN (i : Int) (j : Int) L[k]) hp
  obtain ⟨c, hcc⟩ : ∃ c, c = keyN (i : Int) (j : Int) L[k] := ⟨_, rfl⟩
  rw [← hcc] at e ha hn ⊢
  obtain ⟨X, hX⟩ : ∃ X, X = L.filter (fun x => decide (keyN (i : Int) (j : Int) x < c)) := ⟨_, rfl⟩
  obtain ⟨Y, hY⟩ : ∃ Y, Y = L.filter (fun x => decide (keyN (i : Int) (j : Int) x = c)) := ⟨_, rfl⟩
  obtain ⟨Z, hZ⟩ : ∃ Z, Z = L.filter (fun x => decide (c < keyN (i : Int) (j : Int) x)) := ⟨_, rfl⟩
  have mX : ∀ x ∈ X, keyN (i : Int) (j : Int) x < c := fun x hx => by rw [hX] at hx; simpa using (List.mem_filter.1 hx).2
  have mZ : ∀ x ∈ Z, c < keyN (i : Int) (j : Int) x := fun x hx => by rw [hZ] at hx; simpa using (List.mem_filter.1 hx).2
  rw [← hX, ← hY, ← hZ] at e
  rw [← hX] at ha
  rw [← hY] at hn ⊢
  subst ha hn
  have hl : L.length = X.length + (Y.length + Z.length) := by conv => lhs; rw [e]; simp
  have hk? : L[k]? = some L[k] := List.getElem?_eq_getElem hk
  have n1 : ¬ k < X.length := by
    intro hlt
    have : L[k]? = X[k]? := by conv => lhs; rw [e]; rw [List.getElem?_append_left hlt]
    rw [hk?] at this
    have := mX _ (List.mem_of_getElem? this.symm)
    omega
  have n2 : k < X.length + Y.length := by
    refine Classical.byContradiction fun hge => ?_
    have : L[k]? = Z[k - X.length - Y.length]? := by
      conv => lhs; rw [e]
      rw [List.getElem?_append_right (by omega), List.getElem?_append_right (by omega)]
    rw [hk?] at this
    have := mZ _ (List.mem_of_getElem? this.symm)
    omega
  refine ⟨by omega, by omega, n2, fun q hq => ?_⟩
  conv => rhs; rw [e]
  rw [List.getElem?_append_right (by omega), List.getElem?_append_left (by omega)]
  congr 1
  omega
end
end Go.Proofs.Ytdppmlchabogaaa
