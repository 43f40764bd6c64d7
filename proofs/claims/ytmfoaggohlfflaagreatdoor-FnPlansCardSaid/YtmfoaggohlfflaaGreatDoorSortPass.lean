/- SortPass; in the program and in the reference. -/
import Derived.Test.YtmfoaggohlfflaaGreatDoorIdle
import Derived.Test.YtmfoaggohlfflaaGreatDoorDecks2
namespace Go.Proofs.YtmfoaggohlfflaaGreatDoor
open Go.RowKit

theorem info_deckS : (Tryz.prog.info? 24).map (fun i => (i.zero, i.size, i.bytes)) = some (some (.slice none 0 0), 1, 24) := by kernel_rfl
/-- The cards of a pocket; the cards of all pockets. -/
def pocketL (L : List (List Int)) (i : Nat) (b : Int) (p : Nat) : List (List Int) := L.filter fun x => pkt x i b == (p : Int)
def sortDD (L : List (List Int)) (i : Nat) (b : Int) : List (List (List Int)) := (List.range 13).map (pocketL L i b)
theorem filter_yes {α : Type} {p : α → Bool} {l : List α} {k : Nat} (hk : k < l.length) (h : p l[k] = true) : (l.take (k + 1)).filter p = (l.take k).filter p ++ [l[k]] := by
  rw [List.take_succ_eq_append_getElem hk, List.filter_append]
  simp [h]
theorem filter_no {α : Type} {p : α → Bool} {l : List α} {k : Nat} (hk : k < l.length) (h : p l[k] = false) : (l.take (k + 1)).filter p = (l.take k).filter p := by
  rw [List.take_succ_eq_append_getElem hk, List.filter_append]
  simp [h]
theorem filter_len {α : Type} (p : α → Bool) (l : List α) (k : Nat) : ((l.take k).filter p).length ≤ k := by
  have h1 := List.length_filter_le p (l.take k)
  have h2 := List.length_take_le k l
  omega
/-- Behind k cards of one pocket; behind q pockets. -/
def PkIn (hs : List Hd) (ix : Nat) (b : Int) (q : Nat) (wo wr : World) (o i : Value) : Prop := ∃ (k n : Nat) (G : Option Addr) (cg : Nat) (gs : List Hd), k ≤ hs.length ∧ i = .int .i64 k ∧ gs.length = n ∧ n ≤ k ∧ o = .slice G n cg ∧ cards gs = ((cards hs).take k).filter (fun x => pkt x ix b == (q : Int)) ∧ ObD wr wo.heap.size wr.heap.size 41 2 G cg gs ∧ Below wo.heap.size wo wr
def PkOut (hs : List Hd) (ix : Nat) (b : Int) (W wr : World) (o i : Value) : Prop := ∃ (q : Nat) (E : Option Addr) (ce : Nat) (ds : List Dk), q ≤ 13 ∧ i = .int .i64 q ∧ ds.length = q ∧ o = .slice E ds.length ce ∧ decks ds = (List.range q).map (pocketL (cards hs) ix b) ∧ ObDD wr W.heap.size wr.heap.size 24 41 2 E ce ds ∧ Below W.heap.size W wr
theorem tot_of_cards {gs : List Hd} {L : List (List Int)} (h : cards gs = L) : tot gs = (L.map List.length).sum := by
  subst h
  simp [tot, cards, Function.comp_def]
theorem sum_filter_le (p : List Int → Bool) (L : List (List Int)) : ((L.filter p).map List.length).sum ≤ (L.map List.length).sum := by
  induction L with
  | nil => simp
  | cons x L ih =>
    simp only [List.filter_cons]
    split <;> simp <;> omega

set_option maxRecDepth 20000 in
set_option maxHeartbeats 8000000 in
theorem sortPass_any (D : Option Addr) (c : Nat) (hs : List Hd) (i : Nat) (b : Int) (w : World) (ha : RdD w w.heap.size D hs) (hok : deckOk (cards hs) = true) (hi : i < deckW (cards hs)) (hl : hs.length + tot hs ≤ 1048576) :
    Calls Tryz.prog 148 #[.slice D hs.length c, .agg #[.int .i64 (i : Int), .int .i64 b]] w fun e w' => ∃ E ce ds, e = .returned (.slice E ds.length ce) ∧ decks ds = sortDD (cards hs) i b ∧ ObDD w' w.heap.size w'.heap.size 24 41 2 E ce ds ∧ Below w.heap.size w w' := by
  obtain ⟨j0, hj, hj0, hj1, hj2⟩ := info_parts info_cardD
  obtain ⟨e0, he, he0, he1, he2⟩ := info_parts info_deckS
  have T0 : Below w.heap.size w (w.alloc (.cells #[.int .i64 (i : Int), .int .i64 b] 76)) := ba (b0 _) _
  replace ha := ha.a1 (.cells #[.int .i64 (i : Int), .int .i64 b] 76)
  obtain ⟨W, hW⟩ : ∃ W, W = w.alloc (.cells #[.int .i64 (i : Int), .int .i64 b] 76) := ⟨_, rfl⟩
  have c2 : W.cell? ⟨w.heap.size, 0, none⟩ = some (.int .i64 (i : Int)) := by rw [hW]; exact cell_new rfl rfl
  have c3 : W.cell? ⟨w.heap.size, 1, none⟩ = some (.int .i64 b) := by rw [hW]; exact cell_new rfl rfl
  rw [← hW] at ha T0
  have HOK := Lib.hid hok
  have HI := Lib.hid hi
  have HWW := Lib.hid hW
  have HN := Lib.hid (show hs.length ≤ 40 by have := deckOk_len hok; rwa [cards_length] at this)
  clear hok hi hW
  obtain ⟨ix, hix⟩ : ∃ ix : Nat, ix = i := ⟨_, rfl⟩
  subst hix
  go_enter Tryz.func148, Tryz.ntmps148
  go_wp2
  rw [← HWW.out]
  go_loopw [5, 6, 7, 9, 11, 17] (fun o _ _ _ i _ wr => PkOut hs ix b W wr o i)
    (fun _ _ _ _ i _ _ => 13 - (intOf i).toNat)
  case atStart => exact ⟨0, _, _, [], by omega, rfl, rfl, rfl, rfl, ObDD.empty (Ob.of (own_lit W #[] 0 (by rw [HWW.out]; simp) (Nat.le_refl _) (by omega) rfl)), ba (b0 _) _⟩
  case round =>
    obtain ⟨wo, rfl⟩ : ∃ wo : World, wo = wr := ⟨_, rfl⟩
    obtain ⟨q, E, ce, ds, hq, rfl, hdl, rfl, hdd, hoo, hbw⟩ := hrel
    have HDL := Lib.hid hdl
    have HDD := Lib.hid hdd
    have hdl13 : ds.length ≤ 13 := by omega
    clear hdl hdd
    by_cases hqlt : q < 13
    · have n2 := cell_later hbw c2
      have n3 := cell_later hbw c3
      have ra := ha.up hbw
      have eq13 : decide ((q : Int) < 13) = true := decide_eq_true (by omega)
      go_wp2
      (try rw [eq13])
      go_loopw [7, 9, 17] (fun o _ i wr => PkIn hs ix b q wo wr o i)
        (fun _ _ i _ => hs.length - (intOf i).toNat)
      case atStart => exact ⟨0, 0, _, _, [], Nat.zero_le _, rfl, rfl, Nat.le_refl _, rfl, rfl, ObD.empty (Ob.of (own_lit wo #[] 0 rfl (Nat.le_refl _) (by omega) rfl)), ba (b0 _) _⟩
      case round =>
        obtain ⟨wi, rfl⟩ : ∃ wi : World, wi = wr := ⟨_, rfl⟩
        obtain ⟨k, _, G, cg, gs, hk, rfl, rfl, hgl, rfl, hgc, hob, hbi⟩ := hrel
        have HGC := Lib.hid hgc
        have hn40 := HN.out
        clear hgc
        by_cases hlt : k < hs.length
        · have i1 : (k : Int) < (hs.length : Int) := by omega
          have hra := ra.up hbi
          have rc := hra.card_at hlt
          have HGD := Lib.hid (deckOk_hd HOK.out hlt)
          have hik := deck_col HOK.out HI.out hlt
          have g0 := cardOk_hole HGD.out.1 hik
          have hlc : hs[k].xs.length ≤ 1048576 := by have := tot_at hs k hlt; omega
          have i2 : (ix : Int) < (hs[k].xs.length : Int) := by omega
          have HCL := Lib.hid (show k < (cards hs).length by rw [cards_length]; exact hlt)
          have HCA := Lib.hid (cards_at hs k HCL.out)
          have HPK := Lib.hid (pkt_hd hik b)
          obtain ⟨u, hu⟩ : ∃ u, u = hs[k].xs[ix] := ⟨_, rfl⟩
          have g : 0 ≤ u ∧ u ≤ 4095 := by rw [hu]; exact g0
          obtain ⟨bq, oq, hD, _, hcell⟩ := hra.at_ hlt
          have HDA := Lib.hid hD
          subst hD
          have kc := hcell k hlt
          obtain ⟨b1, o1, ha1, _, hc1⟩ := rc.at_ hik
          have c1 := hc1 ix _ (ints_get _ ix hik)
          rw [← hu] at c1
          have HU := Lib.hid hu
          have l2 := fun x : Later (wi.alloc (.cells #[.slice (some ⟨b1, o1, none⟩) hs[k].xs.length hs[k].c] 41)) => lat_cell x (cell_alloc (cell_later hbi n2) _)
          have l3 := fun x : Later (wi.alloc (.cells #[.slice (some ⟨b1, o1, none⟩) hs[k].xs.length hs[k].c] 41)) => lat_cell x (cell_alloc (cell_later hbi n3) _)
          have l4 := fun x : Later (wi.alloc (.cells #[.slice (some ⟨b1, o1, none⟩) hs[k].xs.length hs[k].c] 41)) => lat_cell x (cell_alloc c1 _)
          have l5 := fun x : Later (wi.alloc (.cells #[.slice (some ⟨b1, o1, none⟩) hs[k].xs.length hs[k].c] 41)) => lat_cell x (b := wi.heap.size) (o := 0) (cell_new rfl rfl)
          have hbB : Below wo.heap.size wo (wi.alloc (.cells #[.slice (some ⟨b1, o1, none⟩) hs[k].xs.length hs[k].c] 41)) := ba hbi _
          have hobB := hob.alloc (.cells #[.slice (some ⟨b1, o1, none⟩) hs[k].xs.length hs[k].c] 41)
          rw [ha1] at rc
          have rcB := rc.a1 (.cells #[.slice (some ⟨b1, o1, none⟩) hs[k].xs.length hs[k].c] 41)
          clear hcell hc1 g0 hu
          by_cases hp : pocketI u b = (q : Int)
          · have HF := Lib.hid (filter_yes (p := fun x => pkt x ix b == (q : Int)) HCL.out (by rw [HCA.out]; simp only [beq_iff_eq]; rw [HPK.out, ← HU.out]; exact hp))
            have e1 := beq_t hp
            clear hp
            go_wp2_with fail
            refine wp_region_later (by kernel_rfl) (by kernel_rfl) ?_
            repeat (go_big_quiet_step ((go_at_call 104; exact lat_pure (pocketOf_any u b g.1 g.2 _))))
            refine wpQuiet_nil ?_
            intro w4 hb4
            have k5 : w4.cell? ⟨wi.heap.size, 0, none⟩ = some (.slice (some ⟨b1, o1, none⟩) hs[k].xs.length hs[k].c) := cell_later hb4 (cell_new rfl rfl)
            go_wp2_with fail
            refine (newCard_any _ _ hs[k].xs _ (rcB.up hb4) hlc).mono ?_; rintro e w5 ⟨B, d, rfl, ho5, hb5⟩
            have hobN := (hobB.bs hb4).bs hb5
            have HCARD := Lib.hid (Ob.of ho5)
            have HB5 := Lib.hid (bs (bs hbB hb4) hb5)
            have hbase := HB5.out.size
            have HZ := Lib.hid (show wi.heap.size ≤ w4.heap.size ∧ w4.heap.size ≤ w5.heap.size from ⟨(by have := hb4.size; simp only [World.size_alloc] at this; omega), hb5.size⟩)
            have HS0 := Lib.hid hbi.size
            clear ho5 hob hobB hb4 hb5 hbB rcB rc k5
            go_wp2_with (at_builtin; refine wpList_ap rfl (.tmp 32) (.tmp 35) 24 rfl wo.heap.size 41 j0 _ 1 24 Tryz.underlying24 hj hj0 hj1 hj2 rfl (by omega) _ gs.length _ (heads gs) rfl w5 hobN.row.1 1 #[.slice B hs[k].xs.length d] w5.heap.size rfl rfl rfl (one_slice _ _ _) (by omega) (by omega) (by omega) hbase ?_; intro gg cap w6 hown6 hb6 hg6 _ _)
            have HO := Lib.hid (hobN.snoc (by decide) HCARD.out HZ.out.1 (Nat.le_trans HS0.out HZ.out.1) hown6 hg6 (Nat.le_trans HZ.out.1 HZ.out.2) (Nat.le_refl _))
            have HB6 := Lib.hid (HB5.out.trans hb6)
            clear hown6 hb6 hg6 hobN hbase
            go_wp2
            go_roundw
            case rel =>
              have P : PkIn hs ix b q wo w6 (.slice (some ⟨gg, 0, none⟩) (gs.length + 1) cap) (.int .i64 ((k : Int) + 1)) := ⟨k + 1, gs.length + 1, some ⟨gg, 0, none⟩, cap, gs ++ [⟨B, d, hs[k].xs⟩], by omega, by go_num, by rw [List.length_append]; rfl, by omega, rfl, by rw [HF.out, cards_append, HGC.out, HCA.out]; rfl, HO.out, HB6.out⟩
              first | exact P | exact ⟨_, _, P, rfl, rfl⟩ | exact ⟨_, _, _, P, rfl, rfl, rfl⟩
            case measure => simp [intOf]; omega
          · have HF := Lib.hid (filter_no (p := fun x => pkt x ix b == (q : Int)) HCL.out (by rw [HCA.out]; simp only [beq_eq_false_iff_ne, ne_eq]; rw [HPK.out, ← HU.out]; exact hp))
            have e1 := beq_f hp
            clear hp
            go_wp2_with fail
            refine wp_region_later (by kernel_rfl) (by kernel_rfl) ?_
            repeat (go_big_quiet_step ((go_at_call 104; exact lat_pure (pocketOf_any u b g.1 g.2 _))))
            refine wpQuiet_nil ?_
            intro w4 hb4
            have HO := Lib.hid ((hobB.bs hb4).mono (Nat.le_refl _) (show wi.heap.size ≤ w4.heap.size from (by have := hb4.size; simp only [World.size_alloc] at this; omega)))
            have HB5 := Lib.hid (bs hbB hb4)
            clear hob hobB hb4 hbB rcB rc
            go_wp2
            go_roundw
            case rel =>
              have P : PkIn hs ix b q wo w4 (.slice G gs.length cg) (.int .i64 ((k : Int) + 1)) := ⟨k + 1, gs.length, G, cg, gs, by omega, by go_num, rfl, by omega, rfl, by rw [HF.out, HGC.out], HO.out, HB5.out⟩
              first | exact P | exact ⟨_, _, P, rfl, rfl⟩ | exact ⟨_, _, _, P, rfl, rfl, rfl⟩
            case measure => simp [intOf]; omega
        · obtain rfl : k = hs.length := by omega
          have HK := Lib.hid (show cards gs = pocketL (cards hs) ix b q by rw [HGC.out, List.take_of_length_le (by rw [cards_length]; omega)]; rfl)
          have hooN := hoo.bs hbi
          have hbase := (bs hbw hbi).size
          have HBB := Lib.hid (bs hbw hbi)
          have HZ := Lib.hid hbi.size
          go_wp2_with (at_builtin; go_loud (refine wpList_ap rfl (.tmp 38) (.tmp 40) 162 rfl W.heap.size 24 e0 _ 1 24 Tryz.underlying162 he he0 he1 he2 rfl (by omega) _ ds.length _ (dheads ds) rfl wi hooN.row.1 1 #[.slice G gs.length cg] wi.heap.size rfl rfl rfl (one_slice _ _ _) (by omega) (by omega) (by omega) hbase ?_; intro gg cap w6 hown6 hb6 hg6 hgw _))
          have HO := Lib.hid (hooN.snoc hob (Nat.le_refl _) hbw.size hown6 hg6 HZ.out (Nat.le_refl _) (by
            rcases hgw with h | h
            · exact .inl h.symm
            · exact .inr (fun z hz => by simp [Value.ownBlock] at hz; omega)) (by decide) (by decide))
          have HB6 := Lib.hid (HBB.out.trans hb6)
          clear hown6 hb6 hg6 hgw hooN hbase hob hoo
          go_wp2
          go_roundw
          case rel =>
            have P : PkOut hs ix b W w6 (.slice (some ⟨gg, 0, none⟩) (ds.length + 1) cap) (.int .i64 ((q : Int) + 1)) := ⟨q + 1, some ⟨gg, 0, none⟩, cap, ds ++ [⟨G, cg, gs, wo.heap.size, wi.heap.size⟩], by omega, by go_num, by rw [List.length_append, HDL.out]; rfl, by rw [List.length_append]; rfl, by rw [decks_append, HDD.out, List.range_succ, List.map_append]; show _ ++ [cards gs] = _; rw [HK.out]; rfl, HO.out, HB6.out⟩
            first | exact P | exact ⟨_, _, _, _, P, rfl, rfl, rfl, rfl⟩ | exact ⟨_, _, _, _, _, _, P, rfl, rfl, rfl, rfl, rfl, rfl⟩
          case measure => simp [intOf]; omega
    · obtain rfl : q = 13 := by omega
      have HK := Lib.hid (show decks ds = sortDD (cards hs) ix b from HDD.out)
      go_wp2
      go_ret
      exact ⟨E, ce, ds, rfl, HK.out, hoo.mono T0.size (Nat.le_refl _), bs T0 hbw⟩

theorem ObDD.nil (w : World) (lo hi : Nat) (eE eD eC : TypeId) : ObDD w lo hi eE eD eC none 0 [] := ObDD.empty ⟨World.ownsRow_nil _ _ _ _, by simp [Value.ownBlock]⟩
theorem deckOk_le {L : List (List Int)} (h : deckOk L = true) : ∀ x ∈ L, x.length ≤ 20 := by
  intro x hx
  obtain ⟨k, hk, rfl⟩ := List.mem_iff_getElem.1 hx
  have h1 := deckOk_card h hk
  exact (cardOk_len h1.1).2
theorem sum_len_le {n : Nat} : ∀ (L : List (List Int)), (∀ x ∈ L, x.length ≤ n) → (L.map List.length).sum ≤ L.length * n
  | [], _ => by simp
  | x :: L, h => by
    have h1 := h x (List.mem_cons_self ..)
    have h2 := sum_len_le L (fun y hy => h y (List.mem_cons_of_mem _ hy))
    simp only [List.map_cons, List.sum_cons, List.length_cons, Nat.succ_mul]
    omega
def sortRes (L : List (List Int)) (a b : Int) : List (List (List Int)) := if code7 L a b = 0 then sortDD L a.toNat b else []
theorem sortRes_0 {L : List (List Int)} {i : Nat} {b : Int} (h : code7 L (i : Int) b = 0) : sortRes L (i : Int) b = sortDD L i b := by unfold sortRes; rw [if_pos h]; rfl
theorem sortRes_1 {L : List (List Int)} {a b : Int} (h : code7 L a b ≠ 0) : sortRes L a b = [] := by unfold sortRes; rw [if_neg h]
theorem sortRes_bound (L : List (List Int)) (a b : Int) {ds : List Dk} (h : decks ds = sortRes L a b) : ds.length + dtot ds ≤ 1048576 := by
  have e : dtot ds = ((decks ds).map fun L => L.length + (L.map List.length).sum).sum := by
    simp only [dtot, decks, List.map_map]
    congr 1
    apply List.map_congr_left
    intro d _
    simp [tot, cards, Function.comp_def]
  have e2 : ds.length = (decks ds).length := (decks_length ds).symm
  rw [e, e2, h]
  unfold sortRes
  split
  · rename_i hz
    obtain ⟨h1, -⟩ := code7_zero hz
    have hn := deckOk_len h1
    have hw : (L.map List.length).sum ≤ 3200 := by
      have := sum_len_le L (deckOk_le h1)
      have : L.length * 20 ≤ 40 * 20 := Nat.mul_le_mul_right _ hn
      omega
    have hk : ∀ M ∈ sortDD L a.toNat b, M.length + (M.map List.length).sum ≤ 40 + 3200 := by
      intro M hM
      simp only [sortDD, List.mem_map] at hM
      obtain ⟨p, _, rfl⟩ := hM
      have g1 : (pocketL L a.toNat b p).length ≤ L.length := List.length_filter_le _ _
      have g2 := sum_filter_le (fun x => pkt x a.toNat b == (p : Int)) L
      have g3 : ((pocketL L a.toNat b p).map List.length).sum ≤ (L.map List.length).sum := g2
      omega
    have hs : ∀ (l : List (List (List Int))), (∀ M ∈ l, M.length + (M.map List.length).sum ≤ 40 + 3200) → (l.map fun L => L.length + (L.map List.length).sum).sum ≤ l.length * (40 + 3200) := by
      intro l
      induction l with
      | nil => simp
      | cons x l ih =>
        intro hl
        have h2 := ih (fun M hM => hl M (List.mem_cons_of_mem _ hM))
        have h3 := hl x (List.mem_cons_self ..)
        simp only [List.map_cons, List.sum_cons, List.length_cons]
        omega
    have h4 := hs _ hk
    have h5 : (sortDD L a.toNat b).length = 13 := by simp [sortDD]
    rw [h5] at h4 ⊢
    omega
  · simp
theorem ret_dd {E : Option Addr} {n ce : Nat} {a b : Int} (h : a = b) : Ending.returned (.tuple #[.slice E n ce, .int .i64 a]) = .returned (.tuple #[.slice E n ce, .int .i64 b]) := by rw [h]

end Go.Proofs.YtmfoaggohlfflaaGreatDoor
