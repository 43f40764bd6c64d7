/- Decks: validity, columns, copies; in the program and in the reference. The harness over slices of Pass: copies, sizes, equal readings, marks. FullPlan and what it calls, in the program and in the reference: both give the passes of the columns from the last down to the first. slices.IndexFunc and slices.ContainsFunc over decks, at a closure whose contract is given. -/
import Derived.Test.YtkmejkeanmjfbaaGreatDoorKd5
import Derived.Test.YtkmejkeanmjfbaaGreatDoorKd6
import Derived.Test.YtkmejkeanmjfbaaGreatDoorKd7
import Derived.Test.YtkmejkeanmjfbaaGreatDoorKd4
import Derived.Deep.RegionWith
/-! ### Decks -/
namespace Go.Proofs.YtkmejkeanmjfbaaGreatDoor
open Go.RowKit

def deckP (n : Nat) (x : List Int) : Bool := cardOk x && (x.length == n)
def wid0 (L : List (List Int)) : Nat := (L.headD []).length
def deckOk (L : List (List Int)) : Bool := L.all (deckP (wid0 L)) && decide (L.length ≤ 40)
/-- The columns of a deck's cards; 20 without cards. -/
def deckW (L : List (List Int)) : Nat := if L.length = 0 then 20 else wid0 L
theorem deckOk_len {L : List (List Int)} (h : deckOk L = true) : L.length ≤ 40 := by
  simp only [deckOk, Bool.and_eq_true, decide_eq_true_eq] at h
  exact h.2
theorem deckOk_card {L : List (List Int)} (h : deckOk L = true) {k : Nat} (hk : k < L.length) : cardOk L[k] = true ∧ L[k].length = wid0 L := by
  simp only [deckOk, Bool.and_eq_true] at h
  have := List.all_eq_true.1 h.1 _ (List.getElem_mem hk)
  simpa [deckP] using this
theorem deckOk_wid {L : List (List Int)} (h : deckOk L = true) : deckW L ≤ 20 ∧ 1 ≤ deckW L := by
  unfold deckW
  split
  · omega
  · rename_i h0
    have h1 := deckOk_card h (k := 0) (by omega)
    have := cardOk_len h1.1
    omega
theorem info_cardD : (Tryz.prog.info? 26).map (fun i => (i.zero, i.size, i.bytes)) = some (some (.agg #[.slice none 0 0]), 1, 24) := by kernel_rfl
theorem one_slice (B : Option Addr) (n d : Nat) : ∀ u ∈ (#[Value.slice B n d] : Array Value).toList, u.oneCell' = true := by
  intro u hu
  simp at hu
  subst hu
  rfl
theorem wid0_cards {hs : List Hd} (h : 0 < hs.length) : wid0 (cards hs) = hs[0].xs.length := by
  cases hs with
  | nil => simp at h
  | cons x hs => rfl
theorem deckOk_hd {hs : List Hd} (h : deckOk (cards hs) = true) {k : Nat} (hk : k < hs.length) : cardOk hs[k].xs = true ∧ hs[k].xs.length = wid0 (cards hs) := by
  have := deckOk_card h (k := k) (by rw [cards_length]; exact hk)
  simpa [cards] using this
/-- The first k cards are good ones. -/
def goodTo (hs : List Hd) (k : Nat) : Prop := ((cards hs).take k).any (fun x => !deckP (wid0 (cards hs)) x) = false
theorem goodTo_zero (hs : List Hd) : goodTo hs 0 := by simp [goodTo]
theorem goodTo_succ {hs : List Hd} {k : Nat} (h : goodTo hs k) (hk : k < hs.length) (h1 : cardOk hs[k].xs = true) (h2 : hs[k].xs.length = wid0 (cards hs)) : goodTo hs (k + 1) := by
  refine any_take_succ (by rw [cards_length]; exact hk) h ?_
  rw [cards_at]
  simp [deckP, h1, h2]
theorem deckOk_bad {hs : List Hd} {k : Nat} (hk : k < hs.length) (h : ¬ (cardOk hs[k].xs = true ∧ hs[k].xs.length = wid0 (cards hs))) : deckOk (cards hs) = false := by
  cases hd : deckOk (cards hs) with
  | false => rfl
  | true => exact absurd (deckOk_hd hd hk) h
theorem deckOk_end {hs : List Hd} (h : goodTo hs hs.length) : deckOk (cards hs) = decide (hs.length ≤ 40) := by
  unfold goodTo at h
  rw [List.take_of_length_le (by rw [cards_length]; omega), any_not_allI] at h
  simp only [Bool.not_eq_false'] at h
  unfold deckOk
  rw [h, cards_length]
  rfl

set_option maxHeartbeats 2000000 in
theorem l02Deck_w (D : Option Addr) (c : Nat) (hs : List Hd) (w : World) (ha : RdD w w.heap.size D hs) (hl : hs.length + tot hs ≤ 1048577) :
    Calls Tryz.prog 39 #[.slice D hs.length c] w fun e w' => e = .returned (.bool (deckOk (cards hs))) ∧ Below w.heap.size w w' := by
  go_enter Tryz.func39, Tryz.ntmps39
  go_wp2
  go_loopw [3] (fun i wr => ∃ k : Nat, k ≤ hs.length ∧ i = .int .i64 k ∧ goodTo hs k ∧ Below w.heap.size w wr) (fun i _ => hs.length - (intOf i).toNat)
  case atStart => exact ⟨0, Nat.zero_le _, rfl, goodTo_zero _, b0 _⟩
  case round =>
    obtain ⟨k, hk, rfl, hgood, hbw⟩ := hrel
    have HG := Lib.hid hgood
    clear hgood
    by_cases hlt : k < hs.length
    · have h0l : 0 < hs.length := by omega
      have i0 : (0 : Int) < (hs.length : Int) := by omega
      have i1 : (k : Int) < (hs.length : Int) := by omega
      have HW := Lib.hid (wid0_cards h0l)
      have hra := ha.up hbw
      have rc := hra.card_at hlt
      have hlc : hs[k].xs.length ≤ 1048576 := by have := tot_at hs k hlt; omega
      obtain ⟨b, off, hD, hbb, hcell⟩ := hra.at_ hlt
      subst hD
      have k1 := hcell k hlt
      have k0 := hcell 0 h0l
      rw [Nat.add_zero] at k0
      clear hcell ha hra
      have l1 := fun x : Later wr => lat_cell x k1
      have l0 := fun x : Later wr => lat_cell x k0
      rcases Bool.eq_false_or_eq_true (cardOk hs[k].xs) with h1 | h1
      · by_cases h2 : hs[k].xs.length = hs[0].xs.length
        · have HS := Lib.hid (goodTo_succ HG.out hlt h1 (by rw [HW.out]; exact h2))
          have e1 : ((hs[k].xs.length : Int) != (hs[0].xs.length : Int)) = false := by simp; omega
          have e2 : ((hs[k].xs.length : Int) == (hs[0].xs.length : Int)) = true := by simp; omega
          clear h2
          go_wp2_with fail
          refine wp_region_later (by kernel_rfl) (by kernel_rfl) ?_
          repeat (go_big_quiet_step ((go_at_call 48; exact lat_call (l02Ok_any b (off + k) hs[k].a hs[k].c hs[k].xs _ (lat_cell _ k1) (lat_rd _ rc) hlc))))
          refine wpQuiet_nil ?_
          intro w1 hb1
          go_wp2
          go_roundw
          case rel => exact ⟨k + 1, by omega, by go_num, HS.out, bs hbw hb1⟩
          case measure => simp [intOf]; omega
        · have HS := Lib.hid (deckOk_bad hlt (fun h => h2 (by rw [h.2, HW.out])))
          have e1 : ((hs[k].xs.length : Int) != (hs[0].xs.length : Int)) = true := by simp; omega
          have e2 : ((hs[k].xs.length : Int) == (hs[0].xs.length : Int)) = false := by simp; omega
          clear h2
          go_wp2_with fail
          refine wp_region_later (by kernel_rfl) (by kernel_rfl) ?_
          repeat (go_big_quiet_step ((go_at_call 48; exact lat_call (l02Ok_any b (off + k) hs[k].a hs[k].c hs[k].xs _ (lat_cell _ k1) (lat_rd _ rc) hlc))))
          refine wpQuiet_nil ?_
          intro w1 hb1
          go_wp2
          go_ret
          exact ⟨ret_bool HS.out.symm, bs hbw hb1⟩
      · have HS := Lib.hid (deckOk_bad hlt (fun h => by rw [h1] at h; exact absurd h.1 (by simp)))
        go_wp2_with fail
        refine wp_region_later (by kernel_rfl) (by kernel_rfl) ?_
        repeat (go_big_quiet_step ((go_at_call 48; exact lat_call (l02Ok_any b (off + k) hs[k].a hs[k].c hs[k].xs _ (lat_cell _ k1) (lat_rd _ rc) hlc))))
        refine wpQuiet_nil ?_
        intro w1 hb1
        go_wp2
        go_ret
        exact ⟨ret_bool HS.out.symm, bs hbw hb1⟩
    · obtain rfl : k = hs.length := by omega
      have HS := Lib.hid (deckOk_end HG.out)
      go_wp2
      go_ret
      exact ⟨ret_bool (by rw [HS.out]; exact decide_eq_decide.2 (by omega)), hbw⟩

theorem l02Deck_any (D : Option Addr) (c : Nat) (hs : List Hd) (w : World) (ha : RdD w w.heap.size D hs) (hl : hs.length + tot hs ≤ 1048576) :
    Calls Tryz.prog 39 #[.slice D hs.length c] w fun e w' => e = .returned (.bool (deckOk (cards hs))) ∧ Below w.heap.size w w' := l02Deck_w D c hs w ha (by omega)
set_option maxHeartbeats 2000000 in
theorem ValidDeck_w (D : Option Addr) (c : Nat) (hs : List Hd) (w : World) (ha : RdD w w.heap.size D hs) (hl : hs.length + tot hs ≤ 1048577) :
    Calls Tryz.prog 37 #[.slice D hs.length c] w fun e w' => e = .returned (.bool (deckOk (cards hs))) ∧ Below w.heap.size w w' := by
  go_enter Tryz.func37, Tryz.ntmps37
  go_wp2
  go_loopw [4, 7] (fun _ i wr => ∃ k : Nat, k ≤ hs.length ∧ i = .int .i64 k ∧ goodTo hs k ∧ Below w.heap.size w wr) (fun _ i _ => hs.length - (intOf i).toNat)
  case atStart => exact ⟨0, Nat.zero_le _, rfl, goodTo_zero _, b0 _⟩
  case round =>
    obtain ⟨k, hk, rfl, hgood, hbw⟩ := hrel
    have HG := Lib.hid hgood
    clear hgood
    by_cases hlt : k < hs.length
    · have h0l : 0 < hs.length := by omega
      have i0 : (0 : Int) < (hs.length : Int) := by omega
      have i1 : (k : Int) < (hs.length : Int) := by omega
      have HW := Lib.hid (wid0_cards h0l)
      have hra := ha.up hbw
      have rc := (hra.card_at hlt).a1 (.cells #[.slice hs[k].a hs[k].xs.length hs[k].c] 26)
      have hlc : hs[k].xs.length ≤ 1048576 := by have := tot_at hs k hlt; omega
      have hl0 : hs[0].xs.length ≤ 1048576 := by have := tot_at hs 0 h0l; omega
      obtain ⟨b, off, hD, hbb, hcell⟩ := hra.at_ hlt
      subst hD
      have k1 := hcell k hlt
      have k0 := hcell 0 h0l
      rw [Nat.add_zero] at k0
      have l0 := fun x : Later (wr.alloc (.cells #[.slice hs[k].a hs[k].xs.length hs[k].c] 26)) => lat_cell x (cell_alloc k0 _)
      have l1 := fun x : Later (wr.alloc (.cells #[.slice hs[k].a hs[k].xs.length hs[k].c] 26)) => lat_cell x (b := wr.heap.size) (o := 0) (cell_new rfl rfl)
      clear hcell ha hra k0
      rcases Bool.eq_false_or_eq_true (cardOk hs[k].xs) with h1 | h1
      · by_cases h2 : hs[k].xs.length = hs[0].xs.length
        · have HS := Lib.hid (goodTo_succ HG.out hlt h1 (by rw [HW.out]; exact h2))
          have e1 : ((hs[k].xs.length : Int) != (hs[0].xs.length : Int)) = false := by simp; omega
          have e2 : ((hs[k].xs.length : Int) == (hs[0].xs.length : Int)) = true := by simp; omega
          clear h2
          go_wp2_with fail
          refine wp_region_later (by kernel_rfl) (by kernel_rfl) ?_
          repeat (go_big_quiet_step ((first | (go_at_call 42; exact lat_call (ValidCard_any _ _ hs[k].xs _ (lat_rd _ rc) hlc)) | (go_at_call 44; first | exact lat_call (columns_any _ _ _ _ hlc) | exact lat_call (columns_any _ _ _ _ hl0)))))
          refine wpQuiet_nil ?_
          intro w1 hb1
          go_wp2
          go_roundw
          case rel => exact ⟨k + 1, by omega, by go_num, HS.out, bs (ba hbw _) hb1⟩
          case measure => simp [intOf]; omega
        · have HS := Lib.hid (deckOk_bad hlt (fun h => h2 (by rw [h.2, HW.out])))
          have e1 : ((hs[k].xs.length : Int) != (hs[0].xs.length : Int)) = true := by simp; omega
          have e2 : ((hs[k].xs.length : Int) == (hs[0].xs.length : Int)) = false := by simp; omega
          clear h2
          go_wp2_with fail
          refine wp_region_later (by kernel_rfl) (by kernel_rfl) ?_
          repeat (go_big_quiet_step ((first | (go_at_call 42; exact lat_call (ValidCard_any _ _ hs[k].xs _ (lat_rd _ rc) hlc)) | (go_at_call 44; first | exact lat_call (columns_any _ _ _ _ hlc) | exact lat_call (columns_any _ _ _ _ hl0)))))
          refine wpQuiet_nil ?_
          intro w1 hb1
          go_wp2
          go_ret
          exact ⟨ret_bool HS.out.symm, bs (ba hbw _) hb1⟩
      · have HS := Lib.hid (deckOk_bad hlt (fun h => by rw [h1] at h; exact absurd h.1 (by simp)))
        go_wp2_with fail
        refine wp_region_later (by kernel_rfl) (by kernel_rfl) ?_
        repeat (go_big_quiet_step ((first | (go_at_call 42; exact lat_call (ValidCard_any _ _ hs[k].xs _ (lat_rd _ rc) hlc)) | (go_at_call 44; first | exact lat_call (columns_any _ _ _ _ hlc) | exact lat_call (columns_any _ _ _ _ hl0)))))
        refine wpQuiet_nil ?_
        intro w1 hb1
        go_wp2
        go_ret
        exact ⟨ret_bool HS.out.symm, bs (ba hbw _) hb1⟩
    · obtain rfl : k = hs.length := by omega
      have HS := Lib.hid (deckOk_end HG.out)
      go_wp2
      go_ret
      exact ⟨ret_bool (by rw [HS.out]; exact decide_eq_decide.2 (by omega)), hbw⟩

theorem ValidDeck_any (D : Option Addr) (c : Nat) (hs : List Hd) (w : World) (ha : RdD w w.heap.size D hs) (hl : hs.length + tot hs ≤ 1048576) :
    Calls Tryz.prog 37 #[.slice D hs.length c] w fun e w' => e = .returned (.bool (deckOk (cards hs))) ∧ Below w.heap.size w w' := ValidDeck_w D c hs w ha (by omega)
theorem deckW_zero {hs : List Hd} (h : hs.length = 0) : deckW (cards hs) = 20 := by unfold deckW; rw [cards_length, if_pos h]
theorem deckW_pos {hs : List Hd} (h : 0 < hs.length) : deckW (cards hs) = hs[0].xs.length := by unfold deckW; rw [cards_length, if_neg (by omega), wid0_cards h]
end Go.Proofs.YtkmejkeanmjfbaaGreatDoor

/-! ### HarnPass -/
namespace Go.Proofs.YtkmejkeanmjfbaaGreatDoor
open Go.RowKit

end Go.Proofs.YtkmejkeanmjfbaaGreatDoor

/-! ### Plan -/
namespace Go.Proofs.YtkmejkeanmjfbaaGreatDoor
open Go.RowKit

/-- Is a field one of so many columns? -/
def fieldOk (a b n : Int) : Bool := decide (0 ≤ a) && (decide (a < b) && decide (b ≤ n))
theorem fieldOk_true {a b n : Int} (h : fieldOk a b n = true) : 0 ≤ a ∧ a < b ∧ b ≤ n := by simpa [fieldOk] using h
theorem fieldOk_mk {a b n : Int} (h0 : 0 ≤ a) (h1 : a < b) (h2 : b ≤ n) : fieldOk a b n = true := by simp [fieldOk, *]


/-- The passes of the columns b-1, b-2, .. : j columns. -/
def planOf (b : Int) (j : Nat) : List (Int × Int) := (List.range j).flatMap fun i : Nat => [(b - 1 - (i : Int), 1), (b - 1 - (i : Int), 2)]
theorem planOf_succ (b : Int) (j : Nat) : planOf b (j + 1) = planOf b j ++ [(b - 1 - (j : Int), 1), (b - 1 - (j : Int), 2)] := by
  simp [planOf, List.range_succ, List.flatMap_append]
theorem planOf_length (b : Int) (j : Nat) : (planOf b j).length = 2 * j := by
  induction j with
  | zero => rfl
  | succ j ih => rw [planOf_succ, List.length_append, ih]; simp; omega

def fullRes (a b : Int) : List (Int × Int) := if fieldOk a b 20 = true then planOf b (b - a).toNat else []
def fullCode (a b : Int) : Int := if fieldOk a b 20 = true then 0 else 2
theorem fullRes_length (a b : Int) : (fullRes a b).length ≤ 40 := by
  unfold fullRes
  split
  · rename_i h
    have := fieldOk_true h
    rw [planOf_length]
    omega
  · simp

end Go.Proofs.YtkmejkeanmjfbaaGreatDoor

/-! ### FuncsCard -/
namespace Go.Proofs.YtkmejkeanmjfbaaGreatDoor
open Go.RowKit

end Go.Proofs.YtkmejkeanmjfbaaGreatDoor
