/- Cards that are punched one after the other: the plain result. No walk here. -/
import Derived.Test.YtkmejkeanmjfbaaGreatDoorKd29
/-! ### PaLaw -/
namespace Go.Proofs.YtkmejkeanmjfbaaGreatDoor
open Go.RowKit

theorem deck_of {L : List (List Int)} {w : Nat} (h : L.length ≤ 40) (h1 : ∀ x ∈ L, cardOk x = true) (h2 : ∀ x ∈ L, x.length = w) : deckOk L = true := by
  unfold deckOk
  rw [Bool.and_eq_true, decide_eq_true_eq]
  refine ⟨List.all_eq_true.2 fun x hx => ?_, h⟩
  have hw : wid0 L = w := by
    cases L with
    | nil => cases hx
    | cons a r => exact h2 a (by simp)
  unfold deckP
  simp [h1 x hx, h2 x hx, hw]
theorem cols_none {p : Nat → Bool} : ∀ {n : Nat}, (∀ k, k < n → p k = false) → colsWhere p n = []
  | 0, _ => rfl
  | n + 1, h => by rw [colsWhere_no (h n (by omega)), cols_none fun k hk => h k (by omega)]
/-- The first n cards. -/
def paL (s : ByteArray) (xs : List Int) : List ByteArray → List (List Int)
  | [] => []
  | t :: r => pchL s xs t :: paL s (pchL s xs t) r
theorem paL_length (s : ByteArray) : ∀ (xs : List Int) (ts : List ByteArray), (paL s xs ts).length = ts.length
  | _, [] => rfl
  | xs, t :: r => by rw [paL, List.length_cons, paL_length s _ r, List.length_cons]
theorem befL_0 (xs : List Int) (L : List (List Int)) : befL xs L 0 = xs := rfl
theorem befL_s (xs : List Int) (L : List (List Int)) (i : Nat) : befL xs L (i + 1) = L.getD i [] := by unfold befL; rw [if_neg (by omega), Nat.add_sub_cancel]
theorem paL_snoc (s : ByteArray) : ∀ (xs : List Int) (ts : List ByteArray) (t : ByteArray), paL s xs (ts ++ [t]) = paL s xs ts ++ [pchL s (befL xs (paL s xs ts) ts.length) t]
  | xs, [], t => rfl
  | xs, [u], t => rfl
  | xs, u :: v :: q, t => by
    have ih := paL_snoc s (pchL s xs u) (v :: q) t
    rw [List.cons_append, paL, paL, ih, List.cons_append]
    congr 2
theorem paL_take (s : ByteArray) (xs : List Int) (ts : List ByteArray) (k : Nat) : (paL s xs ts).take k = paL s xs (ts.take k) := by
  induction ts generalizing xs k with
  | nil => simp [paL]
  | cons t r ih =>
    cases k with
    | zero => simp [paL]
    | succ k => rw [paL, List.take_succ_cons, List.take_succ_cons, paL, ih]
theorem paL_next {s : ByteArray} {xs : List Int} {ts : List ByteArray} {k : Nat} (h : k < ts.length) : paL s xs (ts.take (k + 1)) = paL s xs (ts.take k) ++ [pchL s (befL xs (paL s xs (ts.take k)) k) (txt ts k)] := by
  rw [List.take_succ_eq_append_getElem h, paL_snoc, List.length_take, Nat.min_eq_left (by omega), txt_at h]
theorem paL_wid {s : ByteArray} : ∀ {xs : List Int} {ts : List ByteArray} {x : List Int}, x ∈ paL s xs ts → x.length = s.size
  | _, [], _, h => by simp [paL] at h
  | xs, t :: r, x, h => by
    rw [paL] at h
    rcases List.mem_cons.1 h with rfl | h
    · exact pchL_length _ _ _
    · exact paL_wid h
/-- The code. -/
def paC (s : ByteArray) (xs : List Int) (ts : List ByteArray) : Int := if l5C s xs = 0 then (if 40 < ts.length then 5 else ((List.range ts.length).findSome? (vaO s ts)).getD 0) else l5C s xs
def paR (s : ByteArray) (xs : List Int) (ts : List ByteArray) : List (List Int) := if paC s xs ts = 0 then paL s xs ts else []
theorem paR_0 {s : ByteArray} {xs : List Int} {ts : List ByteArray} (h : paC s xs ts = 0) : paR s xs ts = paL s xs ts := by unfold paR; rw [if_pos h]
theorem paR_1 {s : ByteArray} {xs : List Int} {ts : List ByteArray} (h : ¬ paC s xs ts = 0) : paR s xs ts = [] := by unfold paR; rw [if_neg h]
theorem paC_z {s : ByteArray} {xs : List Int} {ts : List ByteArray} (h : ¬ l5C s xs = 0) : paC s xs ts = l5C s xs := by unfold paC; rw [if_neg h]
theorem paC_5 {s : ByteArray} {xs : List Int} {ts : List ByteArray} (h : l5C s xs = 0) (hl : 40 < ts.length) : paC s xs ts = 5 := by unfold paC; rw [if_pos h, if_pos hl]
theorem paC_some {s : ByteArray} {xs : List Int} {ts : List ByteArray} {k : Nat} (h : l5C s xs = 0) (hl : ts.length ≤ 40) (hk : k < ts.length) (hno : NoK s ts k) (hc : ¬ chkC s (txt ts k) = 0) : paC s xs ts = chkC s (txt ts k) := by
  unfold paC
  rw [if_pos h, if_neg (by omega), ff_some hk (fun j hj => by unfold vaO; rw [if_pos (hno j hj)]) (show vaO s ts k = some (chkC s (txt ts k)) by unfold vaO; rw [if_neg hc])]
  rfl
theorem paC_none {s : ByteArray} {xs : List Int} {ts : List ByteArray} (h : l5C s xs = 0) (hl : ts.length ≤ 40) (hno : NoK s ts ts.length) : paC s xs ts = 0 := by
  unfold paC
  have : (List.range ts.length).findSome? (vaO s ts) = none := by
    rw [List.findSome?_eq_none_iff]
    intro j hj
    unfold vaO
    rw [if_pos (hno j (List.mem_range.1 hj))]
  rw [if_pos h, if_neg (by omega), this]
  rfl
theorem paC_0 {s : ByteArray} {xs : List Int} {ts : List ByteArray} (h : paC s xs ts = 0) : l5C s xs = 0 ∧ ts.length ≤ 40 ∧ NoK s ts ts.length := by
  by_cases h1 : l5C s xs = 0
  · by_cases h2 : 40 < ts.length
    · rw [paC_5 h1 h2] at h; omega
    · refine ⟨h1, by omega, fun j hj => ?_⟩
      unfold paC at h
      rw [if_pos h1, if_neg h2] at h
      cases hf : (List.range ts.length).findSome? (vaO s ts) with
      | none =>
        have := List.findSome?_eq_none_iff.1 hf j (List.mem_range.2 hj)
        unfold vaO at this
        split at this
        · assumption
        · cases this
      | some v =>
        rw [hf] at h
        obtain ⟨i, _, hi⟩ := List.exists_of_findSome?_eq_some hf
        unfold vaO at hi
        split at hi
        · cases hi
        · rename_i hne
          injection hi with hi
          simp at h
          omega
  · rw [paC_z h1] at h; exact absurd h h1
theorem paR_le (s : ByteArray) (xs : List Int) (ts : List ByteArray) : (paR s xs ts).length ≤ 40 := by
  by_cases h : paC s xs ts = 0
  · rw [paR_0 h, paL_length]; exact (paC_0 h).2.1
  · rw [paR_1 h]; simp
theorem pa_ok {s : ByteArray} : ∀ {xs : List Int} {ts : List ByteArray}, progB s = true → cardOk xs = true → xs.length = s.size → (∀ j, j < ts.length → chkC s (txt ts j) = 0) → ∀ x ∈ paL s xs ts, cardOk x = true
  | _, [], _, _, _, _, x, h => by simp [paL] at h
  | xs, t :: r, hp, hk, hx, hc, x, h => by
    have h0 : chkC s t = 0 := hc 0 (by simp)
    have k0 := pch_ok hp hk hx h0
    rw [paL] at h
    rcases List.mem_cons.1 h with rfl | h
    · exact k0
    · exact pa_ok hp k0 (pchL_length _ _ _) (fun j hj => hc (j + 1) (by simp; omega)) x h
theorem pa_get {s : ByteArray} {xs : List Int} {ts : List ByteArray} {k : Nat} (h : k < ts.length) : (paL s xs ts).getD k [] = pchL s (befL xs (paL s xs ts) k) (txt ts k) := by
  have h1 := paL_next (s := s) (xs := xs) h
  rw [← paL_take, ← paL_take] at h1
  have hl : (paL s xs ts).length = ts.length := paL_length _ _ _
  rw [List.take_succ_eq_append_getElem (by omega)] at h1
  have h2 := List.append_cancel_left h1
  injection h2 with h2
  rw [List.getD_eq_getElem?_getD, List.getElem?_eq_getElem (by omega), Option.getD_some, h2]
  congr 1
  unfold befL
  split
  · rfl
  · rw [List.getD_eq_getElem?_getD, List.getD_eq_getElem?_getD, List.getElem?_take, if_pos (by omega)]
/-- Cards that are punched one after the other are not wrong. -/
theorem punched_all {s : ByteArray} {xs : List Int} {ts : List ByteArray} (h : paC s xs ts = 0) : vaC s xs (paL s xs ts) ts = 0 ∧ vaR s xs (paL s xs ts) ts = [] := by
  obtain ⟨h1, h2, h3⟩ := paC_0 h
  obtain ⟨o1, o2, o3⟩ := l5C_0 h1
  have hl : (paL s xs ts).length = ts.length := paL_length _ _ _
  have hcd := pa_ok o1 o2 o3 h3
  have hd : deckOk (paL s xs ts) = true := deck_of (w := s.size) (by omega) (fun x hx => hcd x hx) (fun x hx => paL_wid hx)
  have hq : vaQ s xs (paL s xs ts) ts.length = 0 := (pg_0 hd h1 hl.symm fun h0 => paL_wid (List.getElem_mem h0)).1
  have hv : vaC s xs (paL s xs ts) ts = 0 := vaC_none hq (by rw [hl]; exact h3)
  refine ⟨hv, ?_⟩
  rw [vaR_0 hv]
  refine cols_none fun k hk => ?_
  rw [hl] at hk
  unfold vaP verV
  rw [if_pos (h3 k hk), pa_get hk, wrg_none fun j _ => rfl]
  rfl
end Go.Proofs.YtkmejkeanmjfbaaGreatDoor
