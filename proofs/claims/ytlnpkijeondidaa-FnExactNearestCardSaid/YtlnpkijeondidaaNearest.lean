/- NearestCard; in the program and in the reference. -/
import Derived.Test.YtlnpkijeondidaaDecks
import Derived.Test.YtlnpkijeondidaaDist
import Derived.Test.YtlnpkijeondidaaMinIdx
namespace Go.Proofs.Ytlnpkijeondidaa
open Go.RowKit

def nearC (L : List (List Int)) (xs : List Int) : Int := if deckOk L = true ∧ cardOk xs = true then (if L.length = 0 then 3 else if wid0 L = xs.length then 0 else 2) else 1
def dists (L : List (List Int)) (xs : List Int) : List Int := L.map fun x => distV x xs
def nearK (L : List (List Int)) (xs : List Int) : Nat := bestTo (atI (dists L xs)) L.length
def nearA (L : List (List Int)) (xs : List Int) : Int := if nearC L xs = 0 then (nearK L xs : Int) else 0
def nearD (L : List (List Int)) (xs : List Int) : Int := if nearC L xs = 0 then atI (dists L xs) (nearK L xs) else 0
theorem near_bad {L : List (List Int)} {xs : List Int} (h : ¬ nearC L xs = 0) : nearA L xs = 0 ∧ nearD L xs = 0 := by
  unfold nearA nearD
  rw [if_neg h, if_neg h]
  exact ⟨rfl, rfl⟩
theorem near_ok {L : List (List Int)} {xs : List Int} (h : nearC L xs = 0) : nearA L xs = (nearK L xs : Int) ∧ nearD L xs = atI (dists L xs) (nearK L xs) := by
  unfold nearA nearD
  rw [if_pos h, if_pos h]
  exact ⟨rfl, rfl⟩
theorem nearC_1 {L : List (List Int)} {xs : List Int} (h : deckOk L = false) : nearC L xs = 1 := by unfold nearC; rw [if_neg (by simp [h])]
theorem nearC_2 {L : List (List Int)} {xs : List Int} (h : cardOk xs = false) : nearC L xs = 1 := by unfold nearC; rw [if_neg (by simp [h])]
theorem nearC_3 {L : List (List Int)} {xs : List Int} (h : deckOk L = true) (h' : cardOk xs = true) (h0 : L.length = 0) : nearC L xs = 3 := by unfold nearC; rw [if_pos ⟨h, h'⟩, if_pos h0]
theorem nearC_4 {L : List (List Int)} {xs : List Int} (h : deckOk L = true) (h' : cardOk xs = true) (h0 : ¬ L.length = 0) (h1 : ¬ wid0 L = xs.length) : nearC L xs = 2 := by unfold nearC; rw [if_pos ⟨h, h'⟩, if_neg h0, if_neg h1]
theorem nearC_5 {L : List (List Int)} {xs : List Int} (h : deckOk L = true) (h' : cardOk xs = true) (h0 : ¬ L.length = 0) (h1 : wid0 L = xs.length) : nearC L xs = 0 := by unfold nearC; rw [if_pos ⟨h, h'⟩, if_neg h0, if_pos h1]
theorem dists_length (L : List (List Int)) (xs : List Int) : (dists L xs).length = L.length := by simp [dists]
theorem dists_at {hs : List Hd} {xs : List Int} {k : Nat} (h : k < hs.length) : atI (dists (cards hs) xs) k = distV hs[k].xs xs := by
  rw [atI_get (by rw [dists_length, cards_length]; exact h)]
  simp [dists, cards]
theorem dists_snoc {hs : List Hd} {xs : List Int} {k : Nat} (h : k < hs.length) : (dists (cards hs) xs).take (k + 1) = (dists (cards hs) xs).take k ++ [distV hs[k].xs xs] := by
  rw [List.take_succ_eq_append_getElem (by rw [dists_length, cards_length]; exact h)]
  simp [dists, cards]
theorem ret_iii {a b c a' b' c' : Int} (h1 : a = a') (h2 : b = b') (h3 : c = c') : Ending.returned (.tuple #[.int .i64 a, .int .i64 b, .int .i64 c]) = .returned (.tuple #[.int .i64 a', .int .i64 b', .int .i64 c']) := by rw [h1, h2, h3]

set_option maxHeartbeats 4000000 in
theorem NearestCard_any (D : Option Addr) (c : Nat) (hs : List Hd) (L : List (List Int)) (A : Option Addr) (c' : Nat) (xs : List Int) (w : World) (ha : RdD w w.heap.size D hs) (hL : cards hs = L) (hl : hs.length + tot hs ≤ 1048576) (_hc : hs.length ≤ c) (hb : Rd w w.heap.size 1 A xs.length (ints xs)) (hl' : xs.length ≤ 1048576) (_hc' : xs.length ≤ c') :
    Calls Try.prog 41 #[.slice D hs.length c, .agg #[.slice A xs.length c']] w fun e w' => e = .returned (.tuple #[.int .i64 (nearA L xs), .int .i64 (nearD L xs), .int .i64 (nearC L xs)]) ∧ Below w.heap.size w w' := by
  subst hL
  have T0 : Below w.heap.size w (w.alloc (.cells #[.slice A xs.length c'] 28)) := ba (b0 _) _
  replace ha := ha.a1 (.cells #[.slice A xs.length c'] 28)
  replace hb := hb.a1 (.cells #[.slice A xs.length c'] 28)
  rcases Bool.eq_false_or_eq_true (deckOk (cards hs)) with h1 | h1
  case inr =>
    have HC := Lib.hid (nearC_1 (xs := xs) h1)
    have HB := Lib.hid (near_bad (L := cards hs) (xs := xs) (by rw [HC.out]; decide))
    go_enter Try.func41, Try.ntmps41
    go_wp2_with fail
    refine (ValidDeck_any _ _ hs _ ha hl).mono ?_; rintro e w1 ⟨rfl, hb1⟩
    go_wp2
    go_ret3
    exact ⟨ret_iii HB.out.1.symm HB.out.2.symm HC.out.symm, bs T0 hb1⟩
  rcases Bool.eq_false_or_eq_true (cardOk xs) with h2 | h2
  case inr =>
    have HC := Lib.hid (nearC_2 (L := cards hs) h2)
    have HB := Lib.hid (near_bad (L := cards hs) (xs := xs) (by rw [HC.out]; decide))
    go_enter Try.func41, Try.ntmps41
    go_wp2_with fail
    refine (ValidDeck_any _ _ hs _ ha hl).mono ?_; rintro e w1 ⟨rfl, hb1⟩
    have k1 : w1.cell? ⟨w.heap.size, 0, none⟩ = some (.slice A xs.length c') := cell_later hb1 (cell_new rfl rfl)
    go_wp2_with fail
    refine (ValidCard_any _ _ xs _ (hb.up hb1) hl').mono ?_; rintro e w2 ⟨rfl, hb2⟩
    go_wp2
    go_ret3
    exact ⟨ret_iii HB.out.1.symm HB.out.2.symm HC.out.symm, bs (bs T0 hb1) hb2⟩
  have H1 := Lib.hid h1
  have H2 := Lib.hid h2
  by_cases h3 : hs.length = 0
  · have HC := Lib.hid (nearC_3 (L := cards hs) h1 h2 (by rw [cards_length]; exact h3))
    have HB := Lib.hid (near_bad (L := cards hs) (xs := xs) (by rw [HC.out]; decide))
    have e0 := beq_t (a := (hs.length : Int)) (b := 0) (by omega)
    clear h3
    go_enter Try.func41, Try.ntmps41
    go_wp2_with fail
    refine (ValidDeck_any _ _ hs _ ha hl).mono ?_; rintro e w1 ⟨rfl, hb1⟩
    have k1 : w1.cell? ⟨w.heap.size, 0, none⟩ = some (.slice A xs.length c') := cell_later hb1 (cell_new rfl rfl)
    go_wp2_with fail
    refine (ValidCard_any _ _ xs _ (hb.up hb1) hl').mono ?_; rintro e w2 ⟨rfl, hb2⟩
    go_wp2
    go_ret3
    exact ⟨ret_iii HB.out.1.symm HB.out.2.symm HC.out.symm, bs (bs T0 hb1) hb2⟩
  have h0l : 0 < hs.length := by omega
  have i0 : (0 : Int) < (hs.length : Int) := by omega
  have e0 := beq_f (a := (hs.length : Int)) (b := 0) (by omega)
  have HW := Lib.hid (wid0_cards h0l)
  have hl0 : hs[0].xs.length ≤ 1048576 := by have := tot_at hs 0 h0l; omega
  have HN := Lib.hid (show hs.length ≤ 40 by have := deckOk_len h1; rwa [cards_length] at this)
  by_cases h4 : hs[0].xs.length = xs.length
  case neg =>
    have HC := Lib.hid (nearC_4 (L := cards hs) h1 h2 (by rw [cards_length]; exact h3) (by rw [HW.out]; exact h4))
    have HB := Lib.hid (near_bad (L := cards hs) (xs := xs) (by rw [HC.out]; decide))
    have e1 := bne_t (a := (hs[0].xs.length : Int)) (b := (xs.length : Int)) (by omega)
    have e2 := beq_f (a := (hs[0].xs.length : Int)) (b := (xs.length : Int)) (by omega)
    clear h3 h4
    go_enter Try.func41, Try.ntmps41
    go_wp2_with fail
    refine (ValidDeck_any _ _ hs _ ha hl).mono ?_; rintro e w1 ⟨rfl, hb1⟩
    have k1 : w1.cell? ⟨w.heap.size, 0, none⟩ = some (.slice A xs.length c') := cell_later hb1 (cell_new rfl rfl)
    go_wp2_with fail
    refine (ValidCard_any _ _ xs _ (hb.up hb1) hl').mono ?_; rintro e w2 ⟨rfl, hb2⟩
    replace k1 := cell_later hb2 k1
    obtain ⟨b, off, hD, hbb, hcell⟩ := ((ha.up hb1).up hb2).at_ h0l
    subst hD
    have k0 := hcell 0 h0l
    rw [Nat.add_zero] at k0
    have l0 := fun x : Later w2 => lat_cell x k0
    have l1 := fun x : Later w2 => lat_cell x k1
    clear hcell
    go_wp2_with fail
    refine wp_region_later (by kernel_rfl) (by kernel_rfl) ?_
    repeat (go_big_quiet_step ((go_at_call 73; first | exact lat_call (columns_any _ _ _ _ hl0) | exact lat_call (columns_any _ _ _ _ hl'))))
    refine wpQuiet_nil ?_
    intro w3 hb3
    go_wp2
    go_ret3
    exact ⟨ret_iii HB.out.1.symm HB.out.2.symm HC.out.symm, bs (bs (bs T0 hb1) hb2) hb3⟩
  have HC := Lib.hid (nearC_5 (L := cards hs) h1 h2 (by rw [cards_length]; exact h3) (by rw [HW.out]; exact h4))
  have HB := Lib.hid (near_ok HC.out)
  have e1 := bne_f (a := (hs[0].xs.length : Int)) (b := (xs.length : Int)) (by omega)
  have e2 := beq_t (a := (hs[0].xs.length : Int)) (b := (xs.length : Int)) (by omega)
  have H4 := Lib.hid h4
  obtain ⟨i1', hi, hz0, hz1, hz2⟩ := info_parts info_i64
  clear h3 h4
  go_enter Try.func41, Try.ntmps41
  go_wp2_with fail
  refine (ValidDeck_any _ _ hs _ ha hl).mono ?_; rintro e w1 ⟨rfl, hb1⟩
  have k1 : w1.cell? ⟨w.heap.size, 0, none⟩ = some (.slice A xs.length c') := cell_later hb1 (cell_new rfl rfl)
  go_wp2_with fail
  refine (ValidCard_any _ _ xs _ (hb.up hb1) hl').mono ?_; rintro e w2 ⟨rfl, hb2⟩
  replace k1 := cell_later hb2 k1
  have ra := (ha.up hb1).up hb2
  obtain ⟨b, off, hD, hbb, hcell⟩ := ra.at_ h0l
  subst hD
  have k0 := hcell 0 h0l
  rw [Nat.add_zero] at k0
  have l0 := fun x : Later w2 => lat_cell x k0
  have l1 := fun x : Later w2 => lat_cell x k1
  clear hcell
  go_wp2_with fail
  refine wp_region_later (by kernel_rfl) (by kernel_rfl) ?_
  repeat (go_big_quiet_step ((go_at_call 73; first | exact lat_call (columns_any _ _ _ _ hl0) | exact lat_call (columns_any _ _ _ _ hl'))))
  refine wpQuiet_nil ?_
  intro w3 hb3
  clear l0 l1 k0
  replace k1 := cell_later hb3 k1
  replace ra := ra.up hb3
  have rb := ((hb.up hb1).up hb2).up hb3
  have T3 := bs (bs (bs T0 hb1) hb2) hb3
  clear ha hb hb1 hb2 hb3 T0
  go_wp2
  go_loopw [7, 9, 35] (fun o _ i wr => ∃ (k : Nat) (G : Option Addr) (cg : Nat) (ds : List Int), k ≤ hs.length ∧ i = .int .i64 k ∧ ds.length = k ∧ o = .slice G k cg ∧ ds = (dists (cards hs) xs).take k ∧ wr.ownsRow w3.heap.size 2 1 (.slice G k cg) k (ints ds) ∧ Below w3.heap.size w3 wr)
    (fun _ _ i _ => hs.length - (intOf i).toNat)
  case atStart => exact ⟨0, _, _, [], Nat.zero_le _, rfl, rfl, rfl, by simp, own_lit w3 #[] 0 rfl (Nat.le_refl _) (by omega) rfl, ba (b0 _) _⟩
  case round =>
    obtain ⟨k, G, cg, ds, hk, rfl, hdl, rfl, hds, hown, hbw⟩ := hrel
    have HDL := Lib.hid hdl
    have HDS := Lib.hid hds
    clear hdl hds
    have hn40 := HN.out
    by_cases hlt : k < hs.length
    · have hra := ra.up hbw
      have rc := (hra.card_at hlt).a1 (.cells #[.slice hs[k].a hs[k].xs.length hs[k].c] 28)
      have rx := (rb.up hbw).a1 (.cells #[.slice hs[k].a hs[k].xs.length hs[k].c] 28)
      have i1 : (k : Int) < (hs.length : Int) := by omega
      obtain ⟨b', off', hD, hbb', hcell⟩ := hra.at_ hlt
      injection hD with hD
      injection hD with hD1 hD2
      subst hD1
      subst hD2
      have k2 := hcell k hlt
      have k3 := cell_alloc (cell_later hbw k1) (.cells #[.slice hs[k].a hs[k].xs.length hs[k].c] 28)
      have HK := Lib.hid (deckOk_hd H1.out hlt)
      have hxl : xs.length = hs[k].xs.length := by rw [HK.out.2, HW.out, H4.out]
      have HSN := Lib.hid (dists_snoc (xs := xs) hlt)
      have HX := Lib.hid hxl
      clear hcell hra hxl
      go_wp2_with fail
      refine (distanceOf_any _ _ _ _ hs[k].xs xs _ rc rx HK.out.1 H2.out HX.out).mono ?_; rintro e w4 ⟨rfl, hb4⟩
      have hown1 := own_bs (hown.alloc (.cells #[.slice hs[k].a hs[k].xs.length hs[k].c] 28)) hb4
      have HB4 := Lib.hid (bs (ba hbw (.cells #[.slice hs[k].a hs[k].xs.length hs[k].c] 28)) hb4)
      have hbase := HB4.out.size
      clear hown hb4 rc rx k3
      go_wp2_with (at_builtin; refine wpList_ap rfl (.tmp 39) (.tmp 43) 22 rfl w3.heap.size 2 i1' _ 1 8 Try.underlying22 hi hz0 hz1 hz2 rfl (by omega) G k cg (ints ds) rfl w4 hown1 1 #[.int .i64 (distV hs[k].xs xs)] w4.heap.size rfl rfl rfl (by intro u hu; simp at hu; subst hu; rfl) (by omega) (by omega) (by omega) hbase ?_; intro g cap w5 hown2 hb5 hg5 _ _)
      have HO := Lib.hid (show w5.ownsRow w3.heap.size 2 1 (.slice (some ⟨g, 0, none⟩) (k + 1) cap) (k + 1) (ints (ds ++ [distV hs[k].xs xs])) by rw [ints_snoc]; exact hown2)
      have HB5 := Lib.hid (HB4.out.trans hb5)
      clear hown1 hown2 hb5 hg5 hbase hn40
      go_wp2
      go_roundw
      case rel => exact ⟨k + 1, some ⟨g, 0, none⟩, cap, ds ++ [distV hs[k].xs xs], by omega, by go_num, by rw [List.length_append, HDL.out]; rfl, rfl, by rw [HSN.out, HDS.out], HO.out, HB5.out⟩
      case measure => simp [intOf]; omega
    · obtain rfl : k = hs.length := by omega
      have HDD := Lib.hid (show ds = dists (cards hs) xs by rw [HDS.out, List.take_of_length_le (by rw [dists_length, cards_length]; omega)])
      have hrd := Rd.own hown
      have hrd1 : Rd wr wr.heap.size 1 G ds.length (ints ds) := by rw [HDL.out]; exact hrd
      rw [← HDL.out]
      have hd1 : 1 ≤ ds.length := by rw [HDL.out]; omega
      have hd2 : ds.length ≤ 1048576 := by rw [HDL.out]; omega
      clear hown hrd
      go_wp2_with fail
      refine (MinInts_any _ _ ds _ hrd1 hd1 hd2).mono ?_; rintro e w4 ⟨rfl, rfl⟩
      go_wp2_with fail
      refine (IndexInts_any _ _ ds _ _ hrd1 hd2).mono ?_; rintro e w4 ⟨rfl, rfl⟩
      have HI := Lib.hid (idx_best hd1)
      have HL := Lib.hid (show (cards hs).length = ds.length by rw [cards_length, HDL.out])
      go_wp2
      go_ret3
      exact ⟨ret_iii (by rw [HB.out.1, HI.out, nearK, ← HDD.out, HL.out]) (by rw [HB.out.2, nearK, ← HDD.out, HL.out]) HC.out.symm, bs T3 hbw⟩

set_option maxHeartbeats 4000000 in
theorem spNearestCard_any (D : Option Addr) (c : Nat) (hs : List Hd) (L : List (List Int)) (A : Option Addr) (c' : Nat) (xs : List Int) (w : World) (ha : RdD w w.heap.size D hs) (hL : cards hs = L) (hl : hs.length + tot hs ≤ 1048576) (_hc : hs.length ≤ c) (hb : Rd w w.heap.size 1 A xs.length (ints xs)) (hl' : xs.length ≤ 1048576) (_hc' : xs.length ≤ c') :
    Calls Try.prog 39 #[.slice D hs.length c, .agg #[.slice A xs.length c']] w fun e w' => e = .returned (.tuple #[.int .i64 (nearA L xs), .int .i64 (nearD L xs), .int .i64 (nearC L xs)]) ∧ Below w.heap.size w w' := by
  subst hL
  have T0 : Below w.heap.size w (w.alloc (.cells #[.slice A xs.length c'] 28)) := ba (b0 _) _
  replace ha := ha.a1 (.cells #[.slice A xs.length c'] 28)
  replace hb := hb.a1 (.cells #[.slice A xs.length c'] 28)
  rcases Bool.eq_false_or_eq_true (deckOk (cards hs)) with h1 | h1
  case inr =>
    have HC := Lib.hid (nearC_1 (xs := xs) h1)
    have HB := Lib.hid (near_bad (L := cards hs) (xs := xs) (by rw [HC.out]; decide))
    go_enter Try.func39, Try.ntmps39
    go_wp2_with fail
    refine (l02Deck_any _ _ hs _ ha hl).mono ?_; rintro e w1 ⟨rfl, hb1⟩
    go_wp2
    go_ret3
    exact ⟨ret_iii HB.out.1.symm HB.out.2.symm HC.out.symm, bs T0 hb1⟩
  rcases Bool.eq_false_or_eq_true (cardOk xs) with h2 | h2
  case inr =>
    have HC := Lib.hid (nearC_2 (L := cards hs) h2)
    have HB := Lib.hid (near_bad (L := cards hs) (xs := xs) (by rw [HC.out]; decide))
    go_enter Try.func39, Try.ntmps39
    go_wp2_with fail
    refine (l02Deck_any _ _ hs _ ha hl).mono ?_; rintro e w1 ⟨rfl, hb1⟩
    have k1 : w1.cell? ⟨w.heap.size, 0, none⟩ = some (.slice A xs.length c') := cell_later hb1 (cell_new rfl rfl)
    go_wp2_with fail
    refine (l02Ok_any _ _ A c' xs _ k1 (hb.up hb1) hl').mono ?_; rintro e w2 ⟨rfl, hb2⟩
    go_wp2
    go_ret3
    exact ⟨ret_iii HB.out.1.symm HB.out.2.symm HC.out.symm, bs (bs T0 hb1) hb2⟩
  have H1 := Lib.hid h1
  have H2 := Lib.hid h2
  by_cases h3 : hs.length = 0
  · have HC := Lib.hid (nearC_3 (L := cards hs) h1 h2 (by rw [cards_length]; exact h3))
    have HB := Lib.hid (near_bad (L := cards hs) (xs := xs) (by rw [HC.out]; decide))
    have e0 := beq_t (a := (hs.length : Int)) (b := 0) (by omega)
    clear h3
    go_enter Try.func39, Try.ntmps39
    go_wp2_with fail
    refine (l02Deck_any _ _ hs _ ha hl).mono ?_; rintro e w1 ⟨rfl, hb1⟩
    have k1 : w1.cell? ⟨w.heap.size, 0, none⟩ = some (.slice A xs.length c') := cell_later hb1 (cell_new rfl rfl)
    go_wp2_with fail
    refine (l02Ok_any _ _ A c' xs _ k1 (hb.up hb1) hl').mono ?_; rintro e w2 ⟨rfl, hb2⟩
    go_wp2
    go_ret3
    exact ⟨ret_iii HB.out.1.symm HB.out.2.symm HC.out.symm, bs (bs T0 hb1) hb2⟩
  have h0l : 0 < hs.length := by omega
  have i0 : (0 : Int) < (hs.length : Int) := by omega
  have e0 := beq_f (a := (hs.length : Int)) (b := 0) (by omega)
  have HW := Lib.hid (wid0_cards h0l)
  have HN := Lib.hid (show hs.length ≤ 40 by have := deckOk_len h1; rwa [cards_length] at this)
  by_cases h4 : hs[0].xs.length = xs.length
  case neg =>
    have HC := Lib.hid (nearC_4 (L := cards hs) h1 h2 (by rw [cards_length]; exact h3) (by rw [HW.out]; exact h4))
    have HB := Lib.hid (near_bad (L := cards hs) (xs := xs) (by rw [HC.out]; decide))
    have e1 := bne_t (a := (hs[0].xs.length : Int)) (b := (xs.length : Int)) (by omega)
    have e2 := beq_f (a := (hs[0].xs.length : Int)) (b := (xs.length : Int)) (by omega)
    clear h3 h4
    go_enter Try.func39, Try.ntmps39
    go_wp2_with fail
    refine (l02Deck_any _ _ hs _ ha hl).mono ?_; rintro e w1 ⟨rfl, hb1⟩
    have k1 : w1.cell? ⟨w.heap.size, 0, none⟩ = some (.slice A xs.length c') := cell_later hb1 (cell_new rfl rfl)
    go_wp2_with fail
    refine (l02Ok_any _ _ A c' xs _ k1 (hb.up hb1) hl').mono ?_; rintro e w2 ⟨rfl, hb2⟩
    replace k1 := cell_later hb2 k1
    obtain ⟨b, off, hD, hbb, hcell⟩ := ((ha.up hb1).up hb2).at_ h0l
    subst hD
    have k0 := hcell 0 h0l
    rw [Nat.add_zero] at k0
    have l0 := fun x : Later w2 => lat_cell x k0
    have l1 := fun x : Later w2 => lat_cell x k1
    clear hcell
    go_wp2_with fail
    refine wp_region_later (by kernel_rfl) (by kernel_rfl) ?_
    repeat (go_big_quiet_step (fail))
    refine wpQuiet_nil ?_
    intro w3 hb3
    go_wp2
    go_ret3
    exact ⟨ret_iii HB.out.1.symm HB.out.2.symm HC.out.symm, bs (bs (bs T0 hb1) hb2) hb3⟩
  have HC := Lib.hid (nearC_5 (L := cards hs) h1 h2 (by rw [cards_length]; exact h3) (by rw [HW.out]; exact h4))
  have HB := Lib.hid (near_ok HC.out)
  have e1 := bne_f (a := (hs[0].xs.length : Int)) (b := (xs.length : Int)) (by omega)
  have e2 := beq_t (a := (hs[0].xs.length : Int)) (b := (xs.length : Int)) (by omega)
  have H4 := Lib.hid h4
  clear h3 h4
  go_enter Try.func39, Try.ntmps39
  go_wp2_with fail
  refine (l02Deck_any _ _ hs _ ha hl).mono ?_; rintro e w1 ⟨rfl, hb1⟩
  have k1 : w1.cell? ⟨w.heap.size, 0, none⟩ = some (.slice A xs.length c') := cell_later hb1 (cell_new rfl rfl)
  go_wp2_with fail
  refine (l02Ok_any _ _ A c' xs _ k1 (hb.up hb1) hl').mono ?_; rintro e w2 ⟨rfl, hb2⟩
  replace k1 := cell_later hb2 k1
  have ra := (ha.up hb1).up hb2
  obtain ⟨b, off, hD, hbb, hcell⟩ := ra.at_ h0l
  subst hD
  have k0 := hcell 0 h0l
  rw [Nat.add_zero] at k0
  have l0 := fun x : Later w2 => lat_cell x k0
  have l1 := fun x : Later w2 => lat_cell x k1
  clear hcell
  go_wp2_with fail
  refine wp_region_later (by kernel_rfl) (by kernel_rfl) ?_
  repeat (go_big_quiet_step (fail))
  refine wpQuiet_nil ?_
  intro w3 hb3
  clear l0 l1 k0
  replace k1 := cell_later hb3 k1
  replace ra := ra.up hb3
  have rb := ((hb.up hb1).up hb2).up hb3
  have T3 := bs (bs (bs T0 hb1) hb2) hb3
  clear ha hb hb1 hb2 hb3 T0
  have hfar : ∀ (W : World) (k : Nat) (hk : k < hs.length), W.cell? ⟨w.heap.size, 0, none⟩ = some (.slice A xs.length c') → RdD W W.heap.size (some ⟨b, off, none⟩) hs → Rd W W.heap.size 1 A xs.length (ints xs) →
      Calls Try.prog 68 #[.pointer (some ⟨b, off + k, none⟩), .pointer (some ⟨w.heap.size, 0, none⟩)] W fun e w' => e = .returned (.int .i64 (atI (dists (cards hs) xs) k)) ∧ Below W.heap.size W w' := by
    intro W k hk q1 q2 q3
    obtain ⟨b', off', hD, _, hcell⟩ := q2.at_ hk
    injection hD with hD
    injection hD with hD1 hD2
    subst hD1
    subst hD2
    have HK := deckOk_hd H1.out hk
    rw [dists_at hk]
    exact l06Far_any b (off + k) w.heap.size 0 hs[k].a A hs[k].c c' hs[k].xs xs W (hcell k hk) q1 (q2.card_at hk) q3 HK.1 H2.out (by rw [HK.2, HW.out, H4.out])
  have HF := Lib.hid hfar
  clear hfar
  go_wp2
  go_loopw [7, 8] (fun m i wr => ∃ k : Nat, 1 ≤ k ∧ k ≤ hs.length ∧ i = .int .i64 k ∧ m = .int .i64 (bestTo (atI (dists (cards hs) xs)) k : Nat) ∧ Below w3.heap.size w3 wr) (fun _ i _ => hs.length - (intOf i).toNat)
  case atStart => exact ⟨1, by omega, by omega, rfl, by simp only [bestTo, Int.lt_irrefl, if_false]; rfl, b0 _⟩
  case round =>
    obtain ⟨k, hk1, hk, rfl, rfl, hbw⟩ := hrel
    have HBL := Lib.hid (bestTo_lt (atI (dists (cards hs) xs)) k (by omega))
    obtain ⟨p, hp⟩ : ∃ p, p = bestTo (atI (dists (cards hs) xs)) k := ⟨_, rfl⟩
    have HP := Lib.hid hp
    rw [← hp]
    have hpk : p < k := by have := HBL.out; omega
    clear hp
    by_cases hlt : k < hs.length
    · have hpl : p < hs.length := by omega
      have i1 : (k : Int) < (hs.length : Int) := by omega
      have i2 : (p : Int) < (hs.length : Int) := by omega
      have q1 := cell_later hbw k1
      have q2 := ra.up hbw
      have q3 := rb.up hbw
      have HY := Lib.hid (@bestTo_yes (atI (dists (cards hs) xs)) k)
      have HNN := Lib.hid (@bestTo_no (atI (dists (cards hs) xs)) k)
      by_cases hq : atI (dists (cards hs) xs) k < atI (dists (cards hs) xs) p
      · have HR := Lib.hid (HY.out (by rw [← HP.out]; exact hq))
        go_wp2_with fail
        refine wp_region_later (by kernel_rfl) (by kernel_rfl) ?_
        repeat (go_big_quiet_step ((first | (go_at_call_of 68 (Value.pointer (some ⟨b, off + k, none⟩)); exact lat_call (HF.out _ k hlt (lat_cell _ q1) (q2.up (Later.below _)) (lat_rd _ q3))) | (go_at_call_of 68 (Value.pointer (some ⟨b, off + p, none⟩)); exact lat_call (HF.out _ p hpl (lat_cell _ q1) (q2.up (Later.below _)) (lat_rd _ q3))))))
        refine wpQuiet_nil ?_
        intro w4 hb4
        go_wp2
        go_roundw
        case rel => exact ⟨k + 1, by omega, by omega, by go_num, by rw [HR.out], bs hbw hb4⟩
        case measure => simp [intOf]; omega
      · have HR := Lib.hid (HNN.out (by rw [← HP.out]; exact hq))
        go_wp2_with fail
        refine wp_region_later (by kernel_rfl) (by kernel_rfl) ?_
        repeat (go_big_quiet_step ((first | (go_at_call_of 68 (Value.pointer (some ⟨b, off + k, none⟩)); exact lat_call (HF.out _ k hlt (lat_cell _ q1) (q2.up (Later.below _)) (lat_rd _ q3))) | (go_at_call_of 68 (Value.pointer (some ⟨b, off + p, none⟩)); exact lat_call (HF.out _ p hpl (lat_cell _ q1) (q2.up (Later.below _)) (lat_rd _ q3))))))
        refine wpQuiet_nil ?_
        intro w4 hb4
        go_wp2
        go_roundw
        case rel => exact ⟨k + 1, by omega, by omega, by go_num, by rw [HR.out, HP.out], bs hbw hb4⟩
        case measure => simp [intOf]; omega
    · obtain rfl : k = hs.length := by omega
      have i2 : (p : Int) < (hs.length : Int) := by omega
      have HR := Lib.hid (show nearK (cards hs) xs = p by unfold nearK; rw [cards_length, HP.out])
      go_wp2_with fail
      refine (HF.out _ p hpk (cell_later hbw k1) (ra.up hbw) (rb.up hbw)).mono ?_; rintro e w4 ⟨rfl, hb4⟩
      go_wp2
      go_ret3
      exact ⟨ret_iii (by rw [HB.out.1, HR.out]) (by rw [HB.out.2, HR.out]) HC.out.symm, bs T3 (bs hbw hb4)⟩
end Go.Proofs.Ytlnpkijeondidaa
