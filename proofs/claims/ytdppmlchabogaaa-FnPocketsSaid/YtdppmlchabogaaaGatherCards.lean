/- GatherCards; in the program and in the reference. -/
import Derived.Test.YtdppmlchabogaaaConcat
namespace Go.Proofs.Ytdppmlchabogaaa
open Go.RowKit

def gcC (P : List (List (List Int))) (m : Int) : Int := if P.length = 13 ∧ deckOk P.flatten = true then (if modeB m = true then 0 else 2) else 1
def gcR (P : List (List (List Int))) (m : Int) : List (List Int) := if gcC P m = 0 then gathL P m else []
theorem gcR_no {P : List (List (List Int))} {m : Int} (h : gcC P m ≠ 0) : gcR P m = [] := by unfold gcR; rw [if_neg h]
theorem gcC_n {P : List (List (List Int))} {m : Int} (h : P.length ≠ 13) : gcC P m = 1 ∧ gcR P m = [] := by
  have h1 : gcC P m = 1 := by unfold gcC; rw [if_neg (fun x => h x.1)]
  exact ⟨h1, gcR_no (by rw [h1]; decide)⟩
theorem gcC_d {P : List (List (List Int))} {m : Int} (h : deckOk P.flatten = false) : gcC P m = 1 ∧ gcR P m = [] := by
  have h1 : gcC P m = 1 := by unfold gcC; rw [if_neg (fun x => by rw [h] at x; exact absurd x.2 (by decide))]
  exact ⟨h1, gcR_no (by rw [h1]; decide)⟩
theorem gcC_m {P : List (List (List Int))} {m : Int} (h : P.length = 13) (h2 : deckOk P.flatten = true) (h3 : modeB m = false) : gcC P m = 2 ∧ gcR P m = [] := by
  have h1 : gcC P m = 2 := by unfold gcC; rw [if_pos ⟨h, h2⟩, if_neg (by rw [h3]; decide)]
  exact ⟨h1, gcR_no (by rw [h1]; decide)⟩
theorem gcC_0 {P : List (List (List Int))} {m : Int} (h : P.length = 13) (h2 : deckOk P.flatten = true) (h3 : modeB m = true) : gcC P m = 0 ∧ gcR P m = gathL P m := by
  have h1 : gcC P m = 0 := by unfold gcC; rw [if_pos ⟨h, h2⟩, if_pos h3]
  exact ⟨h1, by unfold gcR; rw [if_pos h1]⟩
theorem ret_gc {E : Option Addr} {n ce : Nat} {a b : Int} (h : a = b) : Ending.returned (.tuple #[.slice E n ce, .int .i64 a]) = .returned (.tuple #[.slice E n ce, .int .i64 b]) := by rw [h]
theorem rdd_pre {w : World} {B : Nat} {E : Option Addr} {ds : List Dk} (h : RdDD w B E ds) (k : Nat) {G : Option Addr} {B' : Nat} (hr : Rd w B' 1 G (flat (ds.take k)).length (heads (flat (ds.take k)))) (hB : B ≤ B') : RdD w B' G (flat (ds.take k)) :=
  ⟨hr, fun x hx => by obtain ⟨d, hd, hxd⟩ := flat_mem hx; exact ((h.deck d (List.mem_of_mem_take hd)).card x hxd).more hB, fun x hx => by obtain ⟨d, hd, hxd⟩ := flat_mem hx; exact (h.deck d (List.mem_of_mem_take hd)).cap x hxd⟩
theorem flat_split (ds : List Dk) (k : Nat) : flat ds = flat (ds.take k) ++ flat (ds.drop k) := by
  unfold flat
  rw [← List.flatMap_append, List.take_append_drop]
theorem deckOk_long {L : List (List Int)} (h : 40 < L.length) : deckOk L = false := by
  rcases Bool.eq_false_or_eq_true (deckOk L) with h1 | h1
  · have := deckOk_len h1
    omega
  · exact h1

set_option maxRecDepth 20000 in
set_option maxHeartbeats 4000000 in
theorem GatherCards_any (E : Option Addr) (ce : Nat) (ds : List Dk) (P : List (List (List Int))) (m : Int) (w : World) (ha : RdDD w w.heap.size E ds) (hP : decks ds = P) (hl : ds.length + dtot ds ≤ 1048576) :
    Calls Try.prog 32 #[.slice E ds.length ce, .int .i64 m] w fun e w' => ∃ D c gs, e = .returned (.tuple #[.slice D gs.length c, .int .i64 (gcC P m)]) ∧ cards gs = gcR P m ∧ ObD w' w.heap.size w'.heap.size 37 2 D c gs ∧ Below w.heap.size w w' := by
  subst hP
  have HPL := Lib.hid (decks_length ds)
  by_cases hn : ds.length = 13
  · have HN := Lib.hid hn
    have n1 : ((ds.length : Int) != 13) = false := bne_f (by omega)
    have HFB := Lib.hid (show (flat ds).length + tot (flat ds) ≤ 1048576 by have := flat_le ds; omega)
    have HFC := Lib.hid (flat_cards ds)
    rcases Bool.eq_false_or_eq_true (deckOk (decks ds).flatten) with h1 | h1
    · have HVD := Lib.hid (show ∀ (W : World) (G : Option Addr) (c : Nat), RdD W W.heap.size G (flat ds) → Calls Try.prog 137 #[.slice G (flat ds).length c] W fun e w' => e = .returned (.bool true) ∧ Below W.heap.size W w' from fun W G c x => by
        have := ValidDeck_any G c (flat ds) W x HFB.out
        rwa [HFC.out, h1] at this)
      rcases Bool.eq_false_or_eq_true (modeB m) with h2 | h2
      · have HC := Lib.hid (gcC_0 (m := m) (by rw [HPL.out]; exact hn) h1 h2)
        have HM := Lib.hid (show ∀ W : World, Calls Try.prog 142 #[.int .i64 m] W fun e w' => e = .returned (.bool true) ∧ W = w' from fun W => by
          have := isMode_any m W
          rwa [h2] at this)
        clear h1 h2 hn
        go_enter Try.func32, Try.ntmps32
        go_wp2_with fail
        refine (Concat_any E ce ds _ ha hl).mono ?_; rintro e w1 ⟨G, c, rfl, ra, hb1⟩
        go_wp2_with fail
        refine (HVD.out _ _ _ ra).mono ?_; rintro e w2 ⟨rfl, hb2⟩
        have T2 := bs hb1 hb2
        clear ra hb1 hb2
        go_wp2_with fail
        refine (HM.out _).mono ?_; rintro e w3 ⟨rfl, rfl⟩
        go_wp2_with fail
        refine (gathered_any E ce ds m _ (ha.up T2) HN.out hl).mono ?_; rintro e w4 ⟨D, c4, gs, rfl, hcc, hoo, hb4⟩
        have HCC := Lib.hid hcc
        clear hcc
        go_wp2
        go_ret2
        exact ⟨D, c4, gs, ret_gc HC.out.1.symm, by rw [HCC.out, HC.out.2], hoo.mono T2.size (Nat.le_refl _), bs T2 hb4⟩
      · have HC := Lib.hid (gcC_m (m := m) (by rw [HPL.out]; exact hn) h1 h2)
        have HM := Lib.hid (show ∀ W : World, Calls Try.prog 142 #[.int .i64 m] W fun e w' => e = .returned (.bool false) ∧ W = w' from fun W => by
          have := isMode_any m W
          rwa [h2] at this)
        clear h1 h2 hn
        go_enter Try.func32, Try.ntmps32
        go_wp2_with fail
        refine (Concat_any E ce ds _ ha hl).mono ?_; rintro e w1 ⟨G, c, rfl, ra, hb1⟩
        go_wp2_with fail
        refine (HVD.out _ _ _ ra).mono ?_; rintro e w2 ⟨rfl, hb2⟩
        have T2 := bs hb1 hb2
        clear ra hb1 hb2
        go_wp2_with fail
        refine (HM.out _).mono ?_; rintro e w3 ⟨rfl, rfl⟩
        go_wp2
        go_ret2
        exact ⟨none, 0, [], ret_gc HC.out.1.symm, HC.out.2.symm, ObD.nil _ _ _ _ _, T2⟩
    · have HC := Lib.hid (gcC_d (m := m) h1)
      have HVD := Lib.hid (show ∀ (W : World) (G : Option Addr) (c : Nat), RdD W W.heap.size G (flat ds) → Calls Try.prog 137 #[.slice G (flat ds).length c] W fun e w' => e = .returned (.bool false) ∧ Below W.heap.size W w' from fun W G c x => by
        have := ValidDeck_any G c (flat ds) W x HFB.out
        rwa [HFC.out, h1] at this)
      clear h1 hn
      go_enter Try.func32, Try.ntmps32
      go_wp2_with fail
      refine (Concat_any E ce ds _ ha hl).mono ?_; rintro e w1 ⟨G, c, rfl, ra, hb1⟩
      go_wp2_with fail
      refine (HVD.out _ _ _ ra).mono ?_; rintro e w2 ⟨rfl, hb2⟩
      have T2 := bs hb1 hb2
      clear ra hb1 hb2
      go_wp2
      go_ret2
      exact ⟨none, 0, [], ret_gc HC.out.1.symm, HC.out.2.symm, ObD.nil _ _ _ _ _, T2⟩
  · have n1 : ((ds.length : Int) != 13) = true := bne_t (by omega)
    have HC := Lib.hid (gcC_n (m := m) (show (decks ds).length ≠ 13 by rw [HPL.out]; exact hn))
    clear hn
    go_enter Try.func32, Try.ntmps32
    go_wp2
    go_ret2
    exact ⟨none, 0, [], ret_gc HC.out.1.symm, HC.out.2.symm, ObD.nil _ _ _ _ _, b0 _⟩

def szL (L : List (List Int)) : Nat := L.length + (L.map List.length).sum
theorem szL_append (L M : List (List Int)) : szL (L ++ M) = szL L + szL M := by
  simp only [szL, List.length_append, List.map_append, List.sum_append]
  omega
theorem szL_getD (P : List (List (List Int))) (j : Nat) : szL (P.getD j []) ≤ szL P.flatten := by
  induction P generalizing j with
  | nil => simp
  | cons L P ih =>
    rw [List.flatten_cons, szL_append]
    cases j with
    | zero => simp
    | succ j =>
      have := ih j
      simp only [List.getD_cons_succ]
      omega
theorem szL_flatMap (js : List Nat) (f : Nat → List (List Int)) (B : Nat) (h : ∀ j, szL (f j) ≤ B) : szL (js.flatMap f) ≤ js.length * B := by
  induction js with
  | nil => simp [szL]
  | cons j js ih =>
    rw [List.flatMap_cons, szL_append, List.length_cons, Nat.succ_mul]
    have := h j
    omega
theorem szL_hds (gs : List Hd) : gs.length + tot gs = szL (cards gs) := by
  rw [szL, cards_length]
  simp [tot, cards, Function.comp_def]
theorem szL_deck {L : List (List Int)} (h : deckOk L = true) : szL L ≤ 840 := by
  have hl := deckOk_len h
  have key : ∀ (M : List (List Int)), (∀ x ∈ M, x.length ≤ 20) → (M.map List.length).sum ≤ M.length * 20 := by
    intro M
    induction M with
    | nil => simp
    | cons x M ih =>
      intro hM
      have h1 := hM x (by simp)
      have h2 := ih (fun y hy => hM y (by simp [hy]))
      simp only [List.map_cons, List.sum_cons, List.length_cons, Nat.succ_mul]
      omega
  have h2 := key L (fun x hx => by
    obtain ⟨k, hk, rfl⟩ := List.mem_iff_getElem.1 hx
    exact (cardOk_len (deckOk_card h hk).1).2)
  unfold szL
  omega
theorem gcR_bnd (P : List (List (List Int))) (m : Int) {gs : List Hd} (h : cards gs = gcR P m) : gs.length + tot gs ≤ 9240 := by
  rw [szL_hds, h]
  unfold gcR
  split
  · rename_i h0
    have hd : deckOk P.flatten = true := by
      unfold gcC at h0
      split at h0
      · rename_i h1
        exact h1.2
      · exact absurd h0 (by decide)
    have h1 := szL_flatMap (ordN m) (fun j => P.getD j []) 840 (fun j => Nat.le_trans (szL_getD P j) (szL_deck hd))
    have h2 := ordN_len m
    have h3 : (ordN m).length * 840 ≤ 11 * 840 := Nat.mul_le_mul_right _ h2
    show szL ((ordN m).flatMap fun j => P.getD j []) ≤ 9240
    omega
  · simp [szL]
end Go.Proofs.Ytdppmlchabogaaa
