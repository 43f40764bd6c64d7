/- Draws of decks, and of a deck with a card that is near to one of its own. -/
import Derived.Test.YtkmejkeanmjfbaaGreatDoorKd37
/-! ### ShNear -/
namespace Go.Proofs.YtkmejkeanmjfbaaGreatDoor
open Go.RowKit

/-- Behind some cards. -/
def DkR (p K m : Nat) (w wr : World) (o q : Value) : Prop := ∃ (j : Nat) (D : Option Addr) (c : Nat) (gs : List Hd), q = .int .i64 j ∧ o = .slice D gs.length c ∧ gs.length + j ≤ m ∧ j ≤ m ∧ LenD (cards gs) ∧
  ObD wr w.heap.size wr.heap.size 26 2 D c gs ∧ Chg p (p + 1) w wr ∧ SrcK wr p (K + 200 * (m - j))

set_option maxRecDepth 20000 in
set_option maxHeartbeats 8000000 in
theorem l02DrawDeck_any (p K wd m : Nat) (w : World) (h : SrcK w p K) (hK : K ≤ 100000) (hwd : wd ≤ 20) (hm : m ≤ 39) :
    Calls Tryz.prog 78 #[.pointer (some ⟨p, 0, none⟩), .int .i64 (wd : Int), .int .i64 (m : Int)] w fun e w' => ∃ D c gs, e = .returned (.slice D gs.length c) ∧ gs.length ≤ m ∧ LenD (cards gs) ∧
      ObD w' w.heap.size w'.heap.size 26 2 D c gs ∧ SrcK w' p (K + 2 + 200 * m) ∧ Chg p (p + 1) w w' := by
  obtain ⟨i0, hi, hz0, hz1, hz2⟩ := info_parts info_cardD
  have hlt := h.lt
  have z1 : IntKind.i64.wrap ((m : Int) + 1) = (m : Int) + 1 := by rw [IntKind.wrap_i64]; omega
  have TA := ba (b0 w) (.cells #[] 26)
  have hA := h.later TA
  go_enter Tryz.func78, Tryz.ntmps78
  go_wp2_with fail
  refine (pick_any p K ((m : Int) + 1) _ hA (by omega) (by omega)).mono ?_
  rintro e w1 ⟨x, hx, rfl, hs1, hc1⟩
  have hxm : x ≤ m := by omega
  have HC1 := Lib.hid (((Chg.refl p (p + 1) w).then TA (Nat.le_refl _)).trans hc1)
  have hrow : (w.alloc (.cells #[] 26)).ownsRow w.heap.size 26 1 (.slice (some ⟨w.heap.size, 0, none⟩) 0 0) 0 [] := own_lit w #[] 0 rfl (Nat.le_refl _) (by omega) rfl
  have HO1 := Lib.hid (Ob.of (own_chg hrow hc1 (by omega)))
  have HS1 := Lib.hid (hs1.more (show K + 2 ≤ K + 2 + 200 * (m - x) by omega))
  clear hc1 hs1 hrow TA hA hx z1
  go_wp2
  go_loopw [7, 8] (fun o q wr => DkR p (K + 2) m w wr o q) (fun _ q _ => (intOf q).toNat)
  case atStart => exact ⟨x, some ⟨w.heap.size, 0, none⟩, 0, [], rfl, rfl, by simpa using hxm, hxm, by simp [LenD, cards], ObD.empty HO1.out, HC1.out, HS1.out⟩
  case round =>
    obtain ⟨wo, rfl⟩ : ∃ wo : World, wo = wr := ⟨_, rfl⟩
    obtain ⟨j', D, c, gs, rfl, rfl, hgj, hj', hgd, hob, hch, hs⟩ := hrel
    have HLD := Lib.hid hgd
    clear hgd
    by_cases hj : 0 < j'
    · obtain ⟨j, rfl⟩ : ∃ j, j' = j + 1 := ⟨j' - 1, by omega⟩
      have i1 : (0 : Int) < ((j + 1 : Nat) : Int) := by omega
      go_wp2_with fail
      refine (l02Draw_any p (K + 2 + 200 * (m - (j + 1))) wd _ hs (by omega)).mono ?_
      rintro e w4 ⟨B, d, xs, rfl, hxl, hcb, hs4, hc4⟩
      have HXL := Lib.hid hxl
      have HCC := Lib.hid hcb
      have hob4 := hob.chg hc4 (.inr (by omega))
      have HC4 := Lib.hid (hch.trans hc4)
      have HS4 := Lib.hid hs4
      have HZ := Lib.hid hc4.size
      have HSZ := Lib.hid hch.size
      have hbase := HC4.out.size
      have hln : gs.length ≤ 41 := by omega
      clear hxl hcb hs4 hc4 hs hob hch
      go_wp2_with (at_builtin; refine wpList_ap rfl (.tmp 18) (.tmp 22) 30 rfl w.heap.size 26 i0 _ 1 24 Tryz.underlying30 hi hz0 hz1 hz2 rfl (by omega) _ gs.length _ (heads gs) rfl w4 hob4.row.1 1 #[.slice B wd d] w4.heap.size rfl rfl rfl (one_slice _ _ _) (by omega) (by omega) (by omega) hbase ?_; intro g cap w5 hown5 hb5 hg5 _ _)
      have HO := Lib.hid (hob4.snoc (by decide) (B := B) (d := d) (xs := xs) (by rw [HXL.out]; exact HCC.out) (Nat.le_refl _) HSZ.out (by rw [HXL.out]; exact hown5) hg5 HZ.out (Nat.le_refl _))
      have HC := Lib.hid (HC4.out.then hb5 (Nat.le_refl _))
      have HS := Lib.hid ((HS4.out.below hb5 hlt).more (show _ ≤ K + 2 + 200 * (m - j) by omega))
      have HL := Lib.hid (HLD.out.snoc (show xs.length ≤ 40 by rw [HXL.out]; omega))
      clear hown5 hb5 hg5 hob4 hbase
      go_wp2
      go_roundw
      case rel =>
        have P : ∀ q, q = .int .i64 (j : Int) → DkR p (K + 2) m w w5 (.slice (some ⟨g, 0, none⟩) (gs.length + 1) cap) q := fun q hq => ⟨j, some ⟨g, 0, none⟩, cap, gs ++ [⟨B, d, xs⟩], hq, by rw [List.length_append]; rfl, by rw [List.length_append, List.length_singleton]; omega, by omega, by rw [cards_append]; exact HL.out, HO.out, HC.out, HS.out⟩
        first | exact P _ (by go_num) | exact ⟨_, P _ (by go_num), rfl⟩ | exact ⟨_, _, P _ (by go_num), rfl, rfl⟩ | exact ⟨_, _, _, P _ (by go_num), rfl, rfl, rfl⟩
      case measure => (simp [intOf]; try omega)
    · obtain rfl : j' = 0 := by omega
      go_wp2
      go_ret
      exact ⟨D, c, gs, rfl, by omega, HLD.out, hob, by simpa using hs, hch⟩

/-- What a draw of a bent deck hands back. -/
def BDkP (p K : Nat) (w : World) (e : Ending) (w' : World) : Prop := ∃ D c gs, e = .returned (.slice D (List.length gs) c) ∧ gs.length ≤ 41 ∧ LenD (cards gs) ∧ ObD w' w.heap.size w'.heap.size 26 2 D c gs ∧ SrcK w' p (K + 20000) ∧ Chg p (p + 1) w w'
set_option maxRecDepth 20000 in
set_option maxHeartbeats 8000000 in
theorem l02BentDeck_any (p K : Nat) (w : World) (h : SrcK w p K) (hK : K ≤ 10000) : Calls Tryz.prog 36 #[.pointer (some ⟨p, 0, none⟩)] w (BDkP p K w) := by
  obtain ⟨i0, hi, hz0, hz1, hz2⟩ := info_parts info_cardD
  have hlt := h.lt
  go_enter Tryz.func36, Tryz.ntmps36
  go_wp2_with fail
  refine (pick_any p K 4 _ h (by omega) (by omega)).mono ?_
  rintro e w1 ⟨x, hx, rfl, hs1, hc1⟩
  have hx3 : x < 4 := by omega
  obtain ⟨wd, hwd⟩ : ∃ wd, wd = 1 + x := ⟨_, rfl⟩
  have hwd4 : wd ≤ 4 := by omega
  have HE := Lib.hid (show (1 : Int) + (x : Int) = (wd : Int) by omega)
  have HC1 := Lib.hid hc1
  clear hwd hc1
  go_wp2_with fail
  rw [HE.out]
  refine (l02DrawDeck_any p (K + 2) wd 7 _ hs1 (by omega) (by omega) (by omega)).mono ?_
  rintro e w2 ⟨D, c, gs, rfl, hg7, hgd, hob2, hs2, hc2⟩
  have z1 := HC1.out.size
  have HC2 := Lib.hid (HC1.out.trans hc2)
  have hob2 := hob2.mono z1 (Nat.le_refl _)
  clear hc2 hs1 HE hx
  go_wp2_with fail
  refine (pick_any p (K + 2 + 2 + 200 * 7) 16 _ hs2 (by omega) (by omega)).mono ?_
  rintro e w3 ⟨y, hy, rfl, hs3, hc3⟩
  have HLD := Lib.hid hgd
  have hch := HC2.out.trans hc3
  have z2 := HC2.out.size
  have z3 := hc3.size
  have hob := (hob2.chg hc3 (.inr (by omega))).mono (Nat.le_refl _) z3
  have hs := hs3
  clear hs2 hs3 hc3 hob2 hgd HC1 HC2 hy
  by_cases y0 : y = 0
  · subst y0
    have e1 : (wd : Int) + 1 = ((wd + 1 : Nat) : Int) := by omega
    have HE1 := Lib.hid e1
    clear e1
    go_wp2_with fail
    rw [HE1.out]
    refine (l02Draw_any p (K + 2 + 2 + 200 * 7 + 2) (wd + 1) _ hs (by omega)).mono ?_
    rintro e w4 ⟨B, d, xs, rfl, hxl, hcb, hs4, hc4⟩
    have HXL := Lib.hid hxl
    have HCC := Lib.hid hcb
    have hob4 := hob.chg hc4 (.inr (by omega))
    have HC4 := Lib.hid (hch.trans hc4)
    have HS4 := Lib.hid hs4
    have HZ := Lib.hid hc4.size
    have HSZ := Lib.hid hch.size
    have hbase := HC4.out.size
    have hln : gs.length ≤ 41 := by omega
    clear hxl hcb hs4 hc4 hs hob hch
    go_wp2_with (at_builtin; refine wpList_ap rfl (.tmp 16) (.tmp 21) 30 rfl w.heap.size 26 i0 _ 1 24 Tryz.underlying30 hi hz0 hz1 hz2 rfl (by omega) _ gs.length _ (heads gs) rfl w4 hob4.row.1 1 #[.slice B (wd + 1) d] w4.heap.size rfl rfl rfl (one_slice _ _ _) (by omega) (by omega) (by omega) hbase ?_; intro g cap w5 hown5 hb5 hg5 _ _)
    have HO := Lib.hid (hob4.snoc (by decide) (B := B) (d := d) (xs := xs) (by rw [HXL.out]; exact HCC.out) (Nat.le_refl _) HSZ.out (by rw [HXL.out]; exact hown5) hg5 HZ.out (Nat.le_refl _))
    have HC := Lib.hid (HC4.out.then hb5 (Nat.le_refl _))
    have HS := Lib.hid ((HS4.out.below hb5 hlt).more (show _ ≤ K + 20000 by omega))
    have HL := Lib.hid (HLD.out.snoc (show xs.length ≤ 40 by rw [HXL.out]; omega))
    clear hown5 hb5 hg5 hob4 hbase
    go_wp2
    go_ret
    exact ⟨some ⟨g, 0, none⟩, cap, gs ++ [⟨B, d, xs⟩], by rw [List.length_append]; rfl, by rw [List.length_append, List.length_singleton]; omega, by rw [cards_append]; exact HL.out, HO.out, HS.out, HC.out⟩
  · have n0 : ((y : Int) == 0) = false := beq_f (by omega)
    by_cases y1 : y = 1
    · have n1 : ((y : Int) == 1) = true := beq_t (by omega)
      clear y0 y1
      by_cases hg0 : 0 < gs.length
      · have i2 : (0 : Int) < (gs.length : Int) := by omega
        obtain ⟨g, hD, hg1, hg2⟩ := own_at hob.row.1 hg0
        subst hD
        have HO0 := Lib.hid hob
        have HC0 := Lib.hid hch
        have HN := Lib.hid (show ∃ n, n = gs.length from ⟨_, rfl⟩)
        clear hob hch
        go_wp2_with fail
        refine (pick_any p (K + 2 + 2 + 200 * 7 + 2) (gs.length : Int) _ hs (by omega) (by omega)).mono ?_
        rintro e w4 ⟨u, hu, rfl, hs4, hc4⟩
        have hul : u < gs.length := by omega
        have i3 : (u : Int) < (gs.length : Int) := by omega
        have z4 := hc4.size
        have z5 := HC0.out.size
        have ob4 := HO0.out.chg hc4 (.inr (by omega))
        have HC4 := Lib.hid (HC0.out.trans hc4)
        have HSP := Lib.hid (l02SpoilD_any p (K + 2 + 2 + 200 * 7 + 2 + 2) w.heap.size w3.heap.size g c u gs w4 hs4 (by omega) ob4 hul HLD.out z4 (by omega) (by omega))
        clear hs4 hc4 ob4 hu hs
        go_wp2_with fail
        refine HSP.out.mono ?_
        rintro e w5 ⟨gs', rfl, hl', hgd', hob', hs', hcs'⟩
        have HL' := Lib.hid hl'
        clear hl' HSP
        go_wp2
        go_ret
        exact ⟨some ⟨g, 0, none⟩, c, gs', (by rw [HL'.out]; rfl), by rw [HL'.out]; omega, hgd', hob', hs'.more (by omega), HC4.out.spoil hcs' (Nat.le_refl _) hg1⟩
      · have i2 : ¬ (0 : Int) < (gs.length : Int) := by omega
        go_wp2
        go_ret
        exact ⟨D, c, gs, rfl, by omega, HLD.out, hob, hs.more (by omega), hch⟩
    · have n1 : ((y : Int) == 1) = false := beq_f (by omega)
      by_cases y2 : y = 2
      · have n2 : ((y : Int) == 2) = true := beq_t (by omega)
        have TA := ba (b0 w3) (.cells #[] 26)
        have hA := hs.later TA
        clear y0 y1 y2 hob
        go_wp2_with fail
        refine (pick_any p (K + 2 + 2 + 200 * 7 + 2) 2 _ hA (by omega) (by omega)).mono ?_
        rintro e w4 ⟨u, hu, rfl, hs4, hc4⟩
        have hu2 : u < 2 := by omega
        have z4 := hch.size
        have HC4 := Lib.hid ((hch.then TA (by omega)).trans hc4)
        have hrow : (w3.alloc (.cells #[] 26)).ownsRow w.heap.size 26 1 (.slice (some ⟨w3.heap.size, 0, none⟩) 0 0) 0 [] := own_lit w3 #[] 0 rfl (by omega) (by omega) rfl
        have HO4 := Lib.hid (Ob.of (own_chg hrow hc4 (by omega)))
        have HS4 := Lib.hid (hs4.more (show K + 2 + 2 + 200 * 7 + 2 + 2 ≤ K + 2 + 2 + 200 * 7 + 2 + 2 + 200 * (41 - (40 + u)) by omega))
        have HQ := Lib.hid (show (40 : Int) + (u : Int) = ((40 + u : Nat) : Int) by omega)
        clear hc4 hs4 hrow TA hA hu hs hch HLD
        go_wp2
        go_loopw [4, 5] (fun o q wr => DkR p (K + 2 + 2 + 200 * 7 + 2 + 2) 41 w wr o q) (fun _ q _ => (intOf q).toNat)
        case atStart => exact ⟨40 + u, some ⟨w3.heap.size, 0, none⟩, 0, [], by rw [HQ.out], rfl, by simp; omega, by omega, by simp [LenD, cards], ObD.empty HO4.out, HC4.out, HS4.out⟩
        case round =>
          obtain ⟨wo, rfl⟩ : ∃ wo : World, wo = wr := ⟨_, rfl⟩
          obtain ⟨j', D, c, gs, rfl, rfl, hgj, hj', hgd, hob, hch, hs⟩ := hrel
          have HLD := Lib.hid hgd
          clear hgd
          by_cases hj : 0 < j'
          · obtain ⟨j, rfl⟩ : ∃ j, j' = j + 1 := ⟨j' - 1, by omega⟩
            have i1 : (0 : Int) < ((j + 1 : Nat) : Int) := by omega
            go_wp2_with fail
            refine (l02Draw_any p (K + 2 + 2 + 200 * 7 + 2 + 2 + 200 * (41 - (j + 1))) 1 _ hs (by omega)).mono ?_
            rintro e w4 ⟨B, d, xs, rfl, hxl, hcb, hs4, hc4⟩
            have HXL := Lib.hid hxl
            have HCC := Lib.hid hcb
            have hob4 := hob.chg hc4 (.inr (by omega))
            have HC4 := Lib.hid (hch.trans hc4)
            have HS4 := Lib.hid hs4
            have HZ := Lib.hid hc4.size
            have HSZ := Lib.hid hch.size
            have hbase := HC4.out.size
            have hln : gs.length ≤ 41 := by omega
            clear hxl hcb hs4 hc4 hs hob hch
            go_wp2_with (at_builtin; refine wpList_ap rfl (.tmp 46) (.tmp 49) 30 rfl w.heap.size 26 i0 _ 1 24 Tryz.underlying30 hi hz0 hz1 hz2 rfl (by omega) _ gs.length _ (heads gs) rfl w4 hob4.row.1 1 #[.slice B 1 d] w4.heap.size rfl rfl rfl (one_slice _ _ _) (by omega) (by omega) (by omega) hbase ?_; intro g cap w5 hown5 hb5 hg5 _ _)
            have HO := Lib.hid (hob4.snoc (by decide) (B := B) (d := d) (xs := xs) (by rw [HXL.out]; exact HCC.out) (Nat.le_refl _) HSZ.out (by rw [HXL.out]; exact hown5) hg5 HZ.out (Nat.le_refl _))
            have HC := Lib.hid (HC4.out.then hb5 (Nat.le_refl _))
            have HS := Lib.hid ((HS4.out.below hb5 hlt).more (show _ ≤ K + 2 + 2 + 200 * 7 + 2 + 2 + 200 * (41 - j) by omega))
            have HL := Lib.hid (HLD.out.snoc (show xs.length ≤ 40 by rw [HXL.out]; omega))
            clear hown5 hb5 hg5 hob4 hbase
            go_wp2
            go_roundw
            case rel =>
              have P : ∀ q, q = .int .i64 (j : Int) → DkR p (K + 2 + 2 + 200 * 7 + 2 + 2) 41 w w5 (.slice (some ⟨g, 0, none⟩) (gs.length + 1) cap) q := fun q hq => ⟨j, some ⟨g, 0, none⟩, cap, gs ++ [⟨B, d, xs⟩], hq, by rw [List.length_append]; rfl, by rw [List.length_append, List.length_singleton]; omega, by omega, by rw [cards_append]; exact HL.out, HO.out, HC.out, HS.out⟩
              first | exact P _ (by go_num) | exact ⟨_, P _ (by go_num), rfl⟩ | exact ⟨_, _, P _ (by go_num), rfl, rfl⟩ | exact ⟨_, _, _, P _ (by go_num), rfl, rfl, rfl⟩
            case measure => (simp [intOf]; try omega)
          · obtain rfl : j' = 0 := by omega
            go_wp2
            go_ret
            exact ⟨D, c, gs, rfl, by omega, HLD.out, hob, hs.more (by omega), hch⟩
      · have n2 : ((y : Int) == 2) = false := beq_f (by omega)
        go_wp2
        go_ret
        exact ⟨D, c, gs, rfl, by omega, HLD.out, hob, hs.more (by omega), hch⟩

/-- What the draw of a deck and a card hands back. -/
def DkCP (w : World) (e : Ending) (w' : World) : Prop := ∃ D c gs B n d xs, e = .returned (.tuple #[.slice D (List.length gs) c, .agg #[.slice B n d]]) ∧ gs.length ≤ 41 ∧ LenD (cards gs) ∧ List.length xs = n ∧ n ≤ 40 ∧
  ObD w' w.heap.size w'.heap.size 26 2 D c gs ∧ Ob w' w.heap.size w'.heap.size 2 1 (.slice B n d) n (ints xs) ∧ Below w.heap.size w w'
end Go.Proofs.YtkmejkeanmjfbaaGreatDoor
