/- What FnShifted leans on: the plain laws; a torn field is blank. -/
import Derived.Test.YthbgdnjlmaadjaaShiftOf
import Derived.Test.YthbgdnjlmaadjaaTorn
import Derived.Test.YthbgdnjlmaadjaaLaced
import Derived.Test.YthbgdnjlmaadjaaLace
import Derived.Test.YthbgdnjlmaadjaaNearAll
import Derived.Test.YthbgdnjlmaadjaaRankAll
namespace Go.Proofs.Ythbgdnjlmaadjaa
open Go.RowKit

/-! ### a laced column is found -/
theorem cols_mem {p : Nat → Bool} {n : Nat} {z : Int} : z ∈ colsWhere p n ↔ ∃ k, k < n ∧ p k = true ∧ z = (k : Int) := by
  unfold colsWhere
  rw [List.mem_map]
  constructor
  · rintro ⟨k, hk, rfl⟩
    have := List.mem_filter.1 hk
    exact ⟨k, List.mem_range.1 this.1, this.2, rfl⟩
  · rintro ⟨k, h1, h2, rfl⟩
    exact ⟨k, List.mem_filter.2 ⟨List.mem_range.2 h1, h2⟩, rfl⟩
theorem set_ok {xs : List Int} (h : cardOk xs = true) (k : Nat) (v : Int) (hv : holeB v = true) : cardOk (xs.set k v) = true := by
  simp only [cardOk, Bool.and_eq_true, List.length_set] at h ⊢
  refine ⟨h.1, List.all_eq_true.2 fun x hx => ?_⟩
  rcases List.mem_or_eq_of_mem_set hx with hx | rfl
  · exact List.all_eq_true.1 h.2 x hx
  · exact hv
theorem laced_found {xs : List Int} {z : Int} (h : laceCode xs z = 0) : lacedCode (laceRes xs z) = 0 ∧ (lacedRes (laceRes xs z)).any (· == z) = true := by
  unfold laceCode at h
  split at h
  · rename_i hk
    split at h
    · rename_i hi
      have hin := insideB_true hi
      have hr : laceRes xs z = xs.set z.toNat 4095 := by
        unfold laceRes laceOk
        rw [if_pos (by rw [hk, hi]; rfl)]
      have ho := set_ok hk z.toNat 4095 rfl
      rw [hr]
      unfold lacedCode lacedRes
      rw [if_pos ho, if_pos ho]
      refine ⟨rfl, List.any_eq_true.2 ⟨z, cols_mem.2 ⟨z.toNat, by rw [List.length_set]; omega, ?_, by omega⟩, by simp⟩⟩
      unfold lacedAt
      have hlt : z.toNat < (xs.set z.toNat 4095).length := by rw [List.length_set]; omega
      simp [List.getD, List.getElem?_eq_getElem hlt]
    · omega
  · omega

/-! ### a torn field is blank -/
theorem torn_ok {xs : List Int} {a b : Int} (h : fieldC xs a b = 0) : fieldC (tornRes xs a b) a b = 0 ∧ (part (tornRes xs a b) a b).any (fun z => z != 0) = false := by
  obtain ⟨hk, hf⟩ := fieldC_zero h
  obtain ⟨f0, f1, f2⟩ := fieldOk_true hf
  have hr : tornRes xs a b = tornL xs a.toNat b.toNat := by unfold tornRes; rw [if_pos h]
  have hl : (tornL xs a.toNat b.toNat).length = xs.length := tornL_length (by omega) (by omega)
  have hk2 : cardOk (tornL xs a.toNat b.toNat) = true := by
    have hk' := hk
    simp only [cardOk, Bool.and_eq_true, hl] at hk ⊢
    refine ⟨hk.1, List.all_eq_true.2 fun x hx => ?_⟩
    unfold tornL at hx
    rcases List.mem_append.1 hx with hx | hx
    · rcases List.mem_append.1 hx with hx | hx
      · exact List.all_eq_true.1 hk.2 x (List.mem_of_mem_take hx)
      · rw [(List.mem_replicate.1 hx).2]
        rfl
    · exact List.all_eq_true.1 hk.2 x (List.mem_of_mem_drop hx)
  rw [hr]
  refine ⟨fieldC_ok hk2 (by rw [hl]; exact hf), ?_⟩
  rw [List.any_eq_false]
  intro z hz
  have hp : part (tornL xs a.toNat b.toNat) a b = List.replicate (b.toNat - a.toNat) 0 := by
    unfold part tornL
    rw [List.append_assoc, List.drop_append_of_le_length (by rw [List.length_take]; omega)]
    have e1 : (xs.take a.toNat).drop a.toNat = [] := List.drop_eq_nil_of_le (by rw [List.length_take]; omega)
    rw [e1, List.nil_append, List.take_append_of_le_length (by rw [List.length_replicate]; omega), List.take_of_length_le (by rw [List.length_replicate]; omega)]
  rw [hp] at hz
  rw [(List.mem_replicate.1 hz).2]
  decide
theorem IsBlank1_any (z : Int) (w : World) : Calls Try.prog 118 #[.int .i64 z] w fun e w' => e = .returned (.bool (z != 0)) ∧ Below w.heap.size w w' := by
  go_enter Try.func118, Try.ntmps118
  go_wp2
  go_ret
  exact ⟨rfl, b0 _⟩
set_option maxRecDepth 20000 in
set_option maxHeartbeats 2000000 in
theorem IsBlankField_good (A : Option Addr) (c : Nat) (xs : List Int) (a b : Int) (w : World) (hz : fieldC xs a b = 0) (hp : (part xs a b).any (fun z => z != 0) = false) (ha : Rd w w.heap.size 1 A xs.length (ints xs)) (hl : xs.length ≤ 1048576) (hc : xs.length ≤ c) :
    Calls Try.prog 42 #[.agg #[.slice A xs.length c], .agg #[.int .i64 a, .int .i64 b]] w fun e w' => e = .returned (.tuple #[.bool true, .int .i64 0]) ∧ Below w.heap.size w w' := by
  have T0 : Below w.heap.size w ((w.alloc (.cells #[.slice A xs.length c] 26)).alloc (.cells #[.int .i64 a, .int .i64 b] 51)) := ba (ba (b0 _) _) _
  replace ha := (ha.a1 (.cells #[.slice A xs.length c] 26)).a1 (.cells #[.int .i64 a, .int .i64 b] 51)
  obtain ⟨hv, hf⟩ := fieldC_zero hz
  obtain ⟨hf0, hf1, hf2⟩ := fieldOk_true hf
  obtain ⟨i, rfl⟩ := Int.eq_ofNat_of_zero_le hf0
  obtain ⟨j, rfl⟩ := Int.eq_ofNat_of_zero_le (show 0 ≤ b by omega)
  have hij : i < j := by omega
  have hjl : j ≤ xs.length := by omega
  have hci : ¬ c = i := by omega
  have HZ := Lib.hid hz
  have HPL := Lib.hid (show (part xs (i : Int) (j : Int)).length = j - i from part_length hf0 hf1 hf2)
  have HPI := Lib.hid (show ((ints xs).drop (i * 1)).take ((j - i) * 1) = ints (part xs (i : Int) (j : Int)) by
    rw [Nat.mul_one, Nat.mul_one]
    simp [ints, part])
  have HP := Lib.hid hp
  clear hv hf hz hp
  go_enter Try.func42, Try.ntmps42
  go_wp2_with fail
  refine (fieldCode_any _ _ xs _ _ _ ha hl).mono ?_
  rw [HZ.out]
  rintro e w1 ⟨rfl, hb1⟩
  have k1 : w1.cell? ⟨w.heap.size, 0, none⟩ = some (.slice A xs.length c) := cell_later hb1 (cell_alloc (cell_new rfl rfl) _)
  have k2 : w1.cell? ⟨w.heap.size + 1, 0, none⟩ = some (.int .i64 (i : Int)) := cell_later hb1 (cell_new (by simp) rfl)
  have k3 : w1.cell? ⟨w.heap.size + 1, 1, none⟩ = some (.int .i64 (j : Int)) := cell_later hb1 (cell_new (by simp) rfl)
  have T1 := bs T0 hb1
  have hr := (ha.up hb1).cut (i := i) (j := j) (by omega) hjl hc
  rw [HPI.out, if_neg hci, ← HPL.out] at hr
  have HC := Lib.hid (ContainsFuncInts_any _ (c - i) (part xs (i : Int) (j : Int)) 118 #[] (fun z => z != 0) w1 hr (by rw [HPL.out]; omega) Try.call118
    (fun p _ w' _ => by rw [Array.append_empty]; exact IsBlank1_any p w'))
  rw [HP.out, HPL.out, Nat.mul_one] at HC
  clear hr ha T0 hb1
  go_wp2_with fail
  refine (HC.out).mono ?_
  rintro e w2 ⟨rfl, hb2⟩
  go_wp2
  go_ret2
  exact ⟨rfl, bs T1 hb2⟩

/-! ### the nearest card -/
theorem near_all {hs : List Hd} {xs : List Int} (h : nearC (cards hs) xs = 0) {k : Nat} (hk : k < hs.length) : pairC hs[k].xs xs = 0 ∧ nearD (cards hs) xs ≤ distRes hs[k].xs xs ∧ ((k : Int) = nearA (cards hs) xs → distRes hs[k].xs xs = nearD (cards hs) xs) := by
  have hok : deckOk (cards hs) = true ∧ cardOk xs = true ∧ wid0 (cards hs) = xs.length := by
    unfold nearC at h
    split at h
    · rename_i h1
      split at h
      · omega
      · split at h
        · rename_i h3
          exact ⟨h1.1, h1.2, h3⟩
        · omega
    · omega
  obtain ⟨h1, h2, h3⟩ := hok
  obtain ⟨c1, c2⟩ := deckOk_hd h1 hk
  have hp : pairC hs[k].xs xs = 0 := pairC_ok c1 h2 (by omega)
  obtain ⟨e1, e2⟩ := near_ok h
  have hat : ∀ j (hj : j < hs.length), atI (dists (cards hs) xs) j = distV hs[j].xs xs := fun j hj => by
    rw [atI_get (by unfold dists; rw [List.length_map, cards_length]; exact hj)]
    simp [dists, cards]
  have hd : distRes hs[k].xs xs = distV hs[k].xs xs := by unfold distRes; rw [if_pos hp]
  rw [hd, e2, ← hat k hk]
  refine ⟨hp, bestTo_min _ _ _ (by rw [cards_length]; exact hk), fun he => ?_⟩
  rw [e1] at he
  have : k = nearK (cards hs) xs := by omega
  rw [this]

/-! ### the shift that is found -/
theorem shift_found {xs ys : List Int} (h : shC xs ys = 0) : shiftCode xs (shBy xs ys) = 0 ∧ shiftRes xs (shBy xs ys) = ys := by
  by_cases hz : pairC xs ys = 0
  · obtain ⟨h1, h2, h3⟩ := pairC_zero hz
    have hlen := cardOk_len h1
    unfold shC at h
    rw [if_pos hz] at h
    split at h
    · rename_i hs
      obtain ⟨v, hv⟩ := Option.isSome_iff_exists.1 hs
      obtain ⟨k, hk, hf⟩ := List.exists_of_findSome?_eq_some hv
      have hk' := List.mem_range.1 hk
      have hb : shBy xs ys = v := by unfold shBy; rw [if_pos hz, hv]; rfl
      have key : shiftL xs v = ys ∧ -20 ≤ v ∧ v ≤ 20 := by
        unfold shTry at hf
        split at hf
        · rename_i e
          injection hf with hf
          subst hf
          exact ⟨e, by omega, by omega⟩
        · split at hf
          · rename_i e
            injection hf with hf
            subst hf
            exact ⟨e, by omega, by omega⟩
          · cases hf
      obtain ⟨q1, q2, q3⟩ := key
      have hi : insideB v (-20) 20 = true := by simp [insideB, q2, q3]
      rw [hb]
      unfold shiftCode shiftRes shiftOk
      rw [if_pos h1, if_pos hi, if_pos (by rw [h1, hi]; rfl)]
      exact ⟨rfl, q1⟩
    · omega
  · unfold shC at h
    rw [if_neg hz] at h
    exact absurd h hz
end Go.Proofs.Ythbgdnjlmaadjaa
