/- The draw of a verifying of cards. -/
import Derived.Test.YtkmejkeanmjfbaaGreatDoorKd35
import Derived.Test.YtkmejkeanmjfbaaGreatDoorKd31
import Derived.Test.YtkmejkeanmjfbaaGreatDoorKd38
/-! ### VaDraw -/
namespace Go.Proofs.YtkmejkeanmjfbaaGreatDoor
open Go.RowKit

/-- A program card, a card, a deck and keys. -/
def DvaP (w : World) (e : Ending) (w' : World) : Prop := ∃ (s : ByteArray) (B : Option Addr) (n d : Nat) (xs : List Int) (E : Option Addr) (ce : Nat) (gs : List Hd) (D : Option Addr) (ck : Nat) (ts : List ByteArray), s.size ≤ 21 ∧ e = .returned (.tuple #[.string s, .agg #[.slice B n d], .slice E gs.length ce, .slice D ts.length ck]) ∧ xs.length = n ∧ n ≤ 40 ∧ ts.length ≤ 6 ∧ (∀ t ∈ ts, t.size ≤ 22) ∧ gs.length ≤ 41 ∧ LenD (cards gs) ∧
  Rd w' w'.heap.size 1 B n (ints xs) ∧ n ≤ d ∧ RdD w' w'.heap.size E gs ∧ gs.length ≤ ce ∧ Rd w' w'.heap.size 1 D ts.length (strv ts) ∧ Below w.heap.size w w'
/-- While cards are changed. -/
def DvR (w : World) (p K c b4 l1 h1 l2 h2 lo hi N L : Nat) (B : Option Addr) (d : Nat) (xs : List Int) (D : Option Addr) (ck : Nat) (ts : List ByteArray) (E : Option Addr) (ce : Nat) (wr : World) (q : Value) : Prop :=
  ∃ (j : Nat) (gs : List Hd), q = .int .i64 j ∧ j ≤ 2 ∧ gs.length = N ∧ (∀ x ∈ gs, x.xs.length = L) ∧ ObD wr lo hi 26 2 E ce gs ∧ wr.cell? ⟨c, 0, none⟩ = some (.slice none 0 0) ∧ wr.frozen? ⟨c, 0, none⟩ = false ∧ wr.cell? ⟨b4, 0, none⟩ = some (.slice B xs.length d) ∧
  Ob wr l1 h1 2 1 (.slice B xs.length d) xs.length (ints xs) ∧ Ob wr l2 h2 9 1 (.slice D ts.length ck) ts.length (strv ts) ∧ SrcK wr p (K + 10 * (2 - j)) ∧ Below w.heap.size w wr ∧ hi ≤ wr.heap.size
abbrev oneB : ByteArray := { data := #[49] }
theorem ints_put2 (xs : List Int) (k : Nat) (v : Int) : (ints xs).set k (.int .i64 v) = ints (xs.set k v) := by unfold ints; rw [List.map_set]
theorem pa_wid {s : ByteArray} {xs : List Int} {ts : List ByteArray} {gs : List Hd} (h : cards gs = paL s xs ts) : gs.length = ts.length ∧ ∀ x ∈ gs, x.xs.length = s.size := by
  refine ⟨by rw [← cards_length, h, paL_length], fun x hx => paL_wid (s := s) (xs := xs) (ts := ts) ?_⟩
  rw [← h]
  exact List.mem_map.2 ⟨x, hx, rfl⟩

set_option maxRecDepth 100000 in
set_option maxHeartbeats 8000000 in
theorem DrawVerifyAll_any (A : Option Addr) (n c : Nat) (bs0 : List UInt8) (w : World) (ha : Rd w w.heap.size 1 A n (byts bs0)) (hn : n ≤ 1048576) :
    Calls Tryz.prog 8 #[.slice A n c] w (DvaP w) := by
  obtain ⟨j0, hj, hj0, hj1, hj2⟩ := info_parts info_strD
  obtain ⟨W, hW⟩ : ∃ W, W = w.alloc (.cells #[.slice none 0 0] 26) := ⟨_, rfl⟩
  have T0 : Below w.heap.size w W := by rw [hW]; exact ba (b0 w) _
  have c0 : W.cell? ⟨w.heap.size, 0, none⟩ = some (.slice none 0 0) := by rw [hW]; exact cell_new rfl rfl
  have f0 : W.frozen? ⟨w.heap.size, 0, none⟩ = false := by rw [hW]; exact froz_new rfl
  have z0 : W.heap.size = w.heap.size + 1 := by rw [hW]; simp
  have haW := ha.up T0
  have HW := Lib.hid hW
  clear hW ha
  go_enter Tryz.func8, Tryz.ntmps8
  go_wp2_with fail
  rw [← HW.out]
  refine (l00From_any A n c bs0 _ haW hn).mono ?_
  rintro e w1 ⟨p, hp, rfl, hs1, hb1⟩
  replace c0 := cell_later hb1 c0
  replace f0 := froz_later hb1 f0 (by omega)
  have T1 := bs T0 hb1
  have z1 := hb1.size
  have hlt := hs1.lt
  clear hb1 haW
  go_wp2_with fail
  refine (l05Bent_any p 0 _ hs1 (by omega)).mono ?_
  rintro e w2 ⟨s, hs21, rfl, hs2, hc2⟩
  replace c0 := hc2.cell c0 (.inl (by omega))
  replace f0 := hc2.froz f0 (by omega) (.inl (by omega))
  have T2 := hc2.below T1 (by omega) (by omega)
  have z2 := hc2.size
  clear hc2 hs1 T1
  go_wp2_with fail
  refine (l05Before_any p _ s _ hs2 (by omega) hs21).mono ?_
  rintro e w3 ⟨B, n, d, xs, rfl, hxl, hn40, hob, hs3, hc3⟩
  subst hxl
  replace c0 := hc3.cell c0 (.inl (by omega))
  replace f0 := hc3.froz f0 (by omega) (.inl (by omega))
  have z3 := hc3.size
  have TB := ba (b0 w3) (.cells #[.slice B xs.length d] 26)
  have HT4 := Lib.hid (bs (hc3.below T2 (by omega) (by omega)) TB)
  have b4 : (w3.alloc (.cells #[.slice B xs.length d] 26)).cell? ⟨w3.heap.size, 0, none⟩ = some (.slice B xs.length d) := cell_new rfl rfl
  replace c0 := cell_later TB c0
  replace f0 := froz_later TB f0 (by omega)
  have hs4 := hs3.later TB
  have HO4 := Lib.hid (hob.bs TB)
  have z4 : w3.heap.size + 1 ≤ (w3.alloc (.cells #[.slice B xs.length d] 26)).heap.size := by simp
  clear hob hc3 hs2 hs3 TB T2
  obtain ⟨v4, hv4⟩ : ∃ v4, v4 = w3.alloc (.cells #[.slice B xs.length d] 26) := ⟨_, rfl⟩
  rw [← hv4] at c0 f0 b4 hs4 HO4 HT4 z4
  have HV := Lib.hid hv4
  clear hv4
  go_wp2_with fail
  rw [← HV.out]
  refine (l05Many_any p _ s _ hs4 (by omega) hs21).mono ?_
  rintro e v5 ⟨D, ck, ts, hts, h22, rfl, hod, hs5, hc5⟩
  have z5 := hc5.size
  replace c0 := hc5.cell c0 (.inl (by omega))
  replace f0 := hc5.froz f0 (by omega) (.inl (by omega))
  replace b4 := hc5.cell b4 (.inr (by omega))
  have HT5 := Lib.hid (hc5.below HT4.out (by omega) (by omega))
  have HO5 := Lib.hid (HO4.out.chg hc5 (.inr (by omega)))
  have HOD5 := Lib.hid hod
  have H22 := Lib.hid h22
  have HCP := Lib.hid (own_cap HO5.out.1).1
  have HCK := Lib.hid (own_cap HOD5.out.1).1
  have HPU := Lib.hid (spPunchAll_any s B d xs D ck ts v5 (by omega) HO5.out.rd (by omega) HCP.out HOD5.out.rd (by omega) (fun t ht => Nat.le_trans (H22.out t ht) (by omega)))
  clear hc5 hs4 hod h22
  go_wp2_with fail
  refine HPU.out.mono ?_
  rintro e v6 ⟨E, ce, gs, rfl, hcd, hgs, hb6⟩
  have z6 := hb6.size
  replace c0 := cell_later hb6 c0
  replace f0 := froz_later hb6 f0 (by omega)
  replace b4 := cell_later hb6 b4
  have hs6 := hs5.later hb6
  have HT6 := Lib.hid (bs HT5.out hb6)
  have HO6 := Lib.hid (HO5.out.bs hb6)
  have HOD6 := Lib.hid (HOD5.out.bs hb6)
  have HGS := Lib.hid hgs
  have HCE := Lib.hid hgs.cap.1
  obtain ⟨z, hz⟩ : ∃ z, z = paC s xs ts := ⟨_, rfl⟩
  rw [← hz]
  clear hb6 hs5 hgs HPU
  by_cases hz0 : z = 0
  · have n0 : (z != 0) = false := bne_f hz0
    have HZ := Lib.hid (show paC s xs ts = 0 by rw [← hz, hz0])
    obtain ⟨hgl, hgw⟩ := pa_wid (hcd.trans (paR_0 HZ.out))
    have HGW := Lib.hid hgw
    have hp := progB_len (l5C_0 (paC_0 HZ.out).1).1
    have HGL := Lib.hid hgl
    clear hz hz0 hcd hgw hgl
    go_wp2_with fail
    refine (pick_any p _ 3 _ hs6 (by omega) (by omega)).mono ?_
    rintro e v7 ⟨x, hx, rfl, hs7, hc7⟩
    have hx2 : x ≤ 2 := by omega
    replace c0 := hc7.cell c0 (.inl (by omega))
    replace f0 := hc7.froz f0 (by omega) (.inl (by omega))
    replace b4 := hc7.cell b4 (.inr (by omega))
    have HT7 := Lib.hid (hc7.below HT6.out (by omega) (by omega))
    have HO7 := Lib.hid (HO6.out.chg hc7 (.inr (by omega)))
    have HOD7 := Lib.hid (HOD6.out.chg hc7 (.inr (by omega)))
    have HGS7 := Lib.hid (HGS.out.chg hc7 (.inr (by omega)))
    have HS7 := Lib.hid (hs7.more (show _ ≤ 0 + 70 + 260 + 600 + 2 + 10 * (2 - x) by omega))
    have HC0 := Lib.hid c0
    have HF0 := Lib.hid f0
    have HB4 := Lib.hid b4
    have z7 := hc7.size
    clear hc7 hs6 hs7 c0 f0 b4 hx
    go_wp2
    go_loopw [12, 13] (fun q _ wr => DvR w p (0 + 70 + 260 + 600 + 2) w.heap.size w3.heap.size w2.heap.size w3.heap.size v4.heap.size v5.heap.size v5.heap.size v6.heap.size gs.length s.size B d xs D ck ts E ce wr q) (fun q _ _ => (intOf q).toNat)
    case atStart => exact ⟨x, gs, rfl, hx2, rfl, HGW.out, HGS7.out, HC0.out, HF0.out, HB4.out, HO7.out, HOD7.out, HS7.out, HT7.out, by omega⟩
    case round =>
      obtain ⟨wo, rfl⟩ : ∃ wo : World, wo = wr := ⟨_, rfl⟩
      obtain ⟨j', hs, rfl, hj2', hhl, hhw, hob, c1, f1, b1, ho1, hod1, hs1, hbw, hsz⟩ := hrel
      have HHL := Lib.hid hhl
      have HHW := Lib.hid hhw
      clear hhl hhw
      by_cases hgo : 0 < j' ∧ 0 < gs.length
      · obtain ⟨hj0', hN0⟩ := hgo
        obtain ⟨j, rfl⟩ : ∃ j, j' = j + 1 := ⟨j' - 1, by omega⟩
        have i1 : (0 : Int) < ((j + 1 : Nat) : Int) := by omega
        have i2 : (0 : Int) < (gs.length : Int) := by omega
        have g1 : decide ((0 : Int) < ((j + 1 : Nat) : Int)) = true := decide_eq_true i1
        have g2 : decide ((0 : Int) < (gs.length : Int)) = true := decide_eq_true i2
        obtain ⟨gE, hE, hgE1, hgE2⟩ := own_at hob.row.1 (k := 0) (by rw [HHL.out]; exact hN0)
        subst hE
        have hgE3 : gE < v6.heap.size := hob.row.2 gE rfl
        go_wp2_with fail
        refine (pick_any p _ (gs.length : Int) _ hs1 (by omega) (by have := HGL.out; omega)).mono ?_
        rintro e v8 ⟨x1, hx1, rfl, hs8, hc8⟩
        have hx1N : x1 < gs.length := by omega
        have hx1h : x1 < hs.length := by rw [HHL.out]; exact hx1N
        have i3 : (x1 : Int) < (gs.length : Int) := by omega
        have z8 := hc8.size
        have hob8 := hob.chg hc8 (.inr (by omega))
        have hL8 : hs[x1].xs.length = s.size := HHW.out _ (List.getElem_mem hx1h)
        have hcd8 := hob8.card _ (List.getElem_mem hx1h)
        obtain ⟨g2, hA2, hg21, hg22⟩ := own_at hcd8.1 (k := 0) (by rw [hL8]; omega)
        have hg23 : g2 < v6.heap.size := hcd8.2 g2 (by rw [hA2]; rfl)
        have kb : v8.cell? ⟨gE, x1, none⟩ = some (.slice (some ⟨g2, 0, none⟩) s.size hs[x1].c) := by
          have h2 := own_cell hob8.row.1 x1 (by rw [heads_length]; exact hx1h)
          have h3 := heads_get hs x1 hx1h
          rw [List.getElem?_eq_getElem (by rw [heads_length]; exact hx1h)] at h3
          injection h3 with h3
          rw [h2, h3, hA2, hL8]
        have hgne : ¬ g2 = gE := fun e => by
          subst e
          have h5 := own_ne hob8.row.1 hcd8.1 (by decide)
          rw [hA2] at h5
          rcases h5 with h5 | h5
          · cases h5
          · exact h5 rfl
        have KB := Lib.hid kb
        have HOB8 := Lib.hid hob8
        have HC8 := Lib.hid (hc8.cell c1 (.inl (by omega)))
        have HF8 := Lib.hid (hc8.froz f1 (by omega) (.inl (by omega)))
        have HB8 := Lib.hid (hc8.cell b1 (.inr (by omega)))
        have HO8 := Lib.hid (ho1.chg hc8 (.inr (by omega)))
        have HOD8 := Lib.hid (hod1.chg hc8 (.inr (by omega)))
        have HT8 := Lib.hid (hc8.below hbw (by omega) (by omega))
        have HL8 := Lib.hid hL8
        have HA2 := Lib.hid hA2
        have i4 : (x1 : Int) < (hs.length : Int) := by omega
        clear hob hob8 hcd8 hL8 hA2 c1 f1 b1 ho1 hod1 hbw hc8 hs1 hx1
        go_wp2_with fail
        go_region_held3 (fun w' => w'.cell? ⟨gE, x1, none⟩ = some (.slice (some ⟨g2, 0, none⟩) s.size hs[x1].c)) (first | exact kb | exact set_far kb hgne | go_keep)
          (first
            | (go_at_call 29; refine (pick_any p (0 + 70 + 260 + 600 + 2 + 10 * (2 - (j + 1)) + 2) _ _ ?_ (by omega) (by omega)).mono ?_; (first | exact hs8 | exact hs8.drew); rintro e w9 ⟨x, hx, rfl, hs9, hc9⟩; have hxm : x < s.size := (by omega); have cx : Chg p (p + 1) v8 w9 := ⟨hc9.os, hc9.tape, hc9.output, hc9.size, hc9.block⟩; replace kb := cx.cell KB.out (.inr (by omega)))
            | (go_at_call 29; refine (pick_any p (0 + 70 + 260 + 600 + 2 + 10 * (2 - (j + 1)) + 2 + 2) _ _ ?_ (by omega) (by omega)).mono ?_; (first | exact hs9 | exact hs9.drew); rintro e w10 ⟨y, hy, rfl, hs10, hc10⟩; have cy : Chg p (p + 1) v8 w10 := cx.trans ⟨hc10.os, hc10.tape, hc10.output, hc10.size, hc10.block⟩; replace kb := cy.cell KB.out (.inr (by omega)); have ob10 := HOB8.out.chg cy (.inr (by omega)); have oc10 := ob10.card _ (List.getElem_mem hx1h); have oc11 : w10.ownsRow v5.heap.size 2 1 (.slice (some ⟨g2, 0, none⟩) s.size hs[x1].c) s.size (ints hs[x1].xs) := (by have h7 := oc10.1; rw [HA2.out, HL8.out] at h7; exact h7); have d1 := own_cell oc11 x (by rw [ints_length, HL8.out]; exact hxm); have e1 := oc11.frozenAt x))
        all_goals
          have z10 := cy.size
          obtain ⟨ys, hys⟩ : ∃ ys, ys = hs[x1].xs.set x (y : Int) := ⟨_, rfl⟩
          have HYL := Lib.hid (show ys.length = s.size by rw [hys, List.length_set, HL8.out])
          have hst := ownsRow_set oc11 x (.int .i64 (y : Int))
          rw [ints_put2, ← hys] at hst
          have hgr : w10.grownBy (w10.setCell ⟨g2, x, none⟩ (.int .i64 (y : Int))) (Value.slice hs[x1].a hs[x1].xs.length hs[x1].c).ownBlock := by
            rw [HA2.out]
            exact set_grown oc11 x _
          have HMK := Lib.hid (ob10.mark (by decide) hx1h (ys := ys) (by rw [HYL.out, HL8.out]) (by rw [HA2.out, HL8.out]; exact hst) hgr)
          have CX := (Chg.refl g2 (g2 + 1) w10).set x (.int .i64 (y : Int)) (Nat.le_refl _) (by omega)
          have C9 := Lib.hid (CX.cell (cy.cell HC8.out (.inl (by omega))) (.inl (by omega)))
          have F9 := Lib.hid (CX.froz (cy.froz HF8.out (by omega) (.inl (by omega))) (by omega) (.inl (by omega)))
          have B9 := Lib.hid (CX.cell (cy.cell HB8.out (.inr (by omega))) (.inl (by omega)))
          have O9 := Lib.hid ((HO8.out.chg cy (.inr (by omega))).chg CX (.inl (by omega)))
          have OD9 := Lib.hid ((HOD8.out.chg cy (.inr (by omega))).chg CX (.inl (by omega)))
          have T9 := Lib.hid (CX.below (cy.below HT8.out (by omega) (by omega)) (by omega) (by omega))
          have S9 := Lib.hid ((hs10.set x (.int .i64 (y : Int)) (show p < g2 by omega)).more (show _ ≤ 0 + 70 + 260 + 600 + 2 + 10 * (2 - j) by omega))
          have Z9 := Lib.hid (show v6.heap.size ≤ (w10.setCell ⟨g2, x, none⟩ (.int .i64 (y : Int))).heap.size by rw [World.size_setCell]; omega)
          have W9 := Lib.hid (show ∀ u ∈ hs.set x1 ⟨hs[x1].a, hs[x1].c, ys⟩, u.xs.length = s.size from fun u hu => by
            rcases List.mem_or_eq_of_mem_set hu with hu | rfl
            · exact HHW.out u hu
            · exact HYL.out)
          clear hys hst hgr ob10 oc10 oc11 d1 e1 CX cy cx hc9 hc10 hs8 hs9 hs10 kb
          go_wp2
          go_roundw
          case rel =>
            have P : DvR w p (0 + 70 + 260 + 600 + 2) w.heap.size w3.heap.size w2.heap.size w3.heap.size v4.heap.size v5.heap.size v5.heap.size v6.heap.size gs.length s.size B d xs D ck ts (some ⟨gE, 0, none⟩) ce (w10.setCell ⟨g2, x, none⟩ (.int .i64 (y : Int))) (.int .i64 (j : Int)) := ⟨j, hs.set x1 ⟨hs[x1].a, hs[x1].c, ys⟩, rfl, by omega, by rw [List.length_set, HHL.out], W9.out, HMK.out, C9.out, F9.out, B9.out, O9.out, OD9.out, S9.out, T9.out, Z9.out⟩
            first | exact P | exact ⟨_, P, rfl⟩ | exact ⟨_, _, P, rfl, rfl⟩ | exact ⟨_, _, _, P, rfl, rfl, rfl⟩ | exact ⟨_, _, _, _, P, rfl, rfl, rfl, rfl⟩ | exact ⟨_, _, _, _, _, P, rfl, rfl, rfl, rfl, rfl⟩ | exact ⟨_, _, _, _, _, _, P, rfl, rfl, rfl, rfl, rfl, rfl⟩ | exact ⟨_, _, _, _, _, _, _, P, rfl, rfl, rfl, rfl, rfl, rfl, rfl⟩ | exact ⟨_, _, _, _, _, _, _, _, P, rfl, rfl, rfl, rfl, rfl, rfl, rfl, rfl⟩
          case measure => (simp [intOf]; try omega)
      · have HOB := Lib.hid hob
        have HS1 := Lib.hid hs1
        have hcap := Lib.hid hob.cap.1
        have HEX : (j' = 0) ∨ (0 < j' ∧ gs.length = 0) := by omega
        have HW1 := Lib.hid hbw
        have O1 := Lib.hid ho1
        have OD1 := Lib.hid hod1
        have HLD := Lib.hid (show LenD (cards hs) from fun y hy => by
          obtain ⟨u, hu, rfl⟩ := List.mem_map.1 hy
          rw [HHW.out u hu]
          omega)
        have HC1 := Lib.hid c1
        have HF1 := Lib.hid f1
        have HB1 := Lib.hid b1
        have hj3 : j' ≤ 2 := hj2'
        have hgo2 : ¬ (0 < j' ∧ 0 < gs.length) := hgo
        clear hob hs1 hbw ho1 hod1 c1 f1 b1 hgo HEX
        rcases (show (¬ (0 : Int) < (j' : Int)) ∨ ((0 : Int) < (j' : Int) ∧ ¬ (0 : Int) < (gs.length : Int)) by omega) with hx1 | ⟨hx1, hx2⟩
        · have g1 : decide ((0 : Int) < (j' : Int)) = false := decide_eq_false hx1
          go_wp2_with fail
          refine (one_any p _ 16 _ HS1.out (by omega) (by omega)).mono ?_
          rintro e w2x (⟨rfl, hs2, hc2⟩ | ⟨rfl, hs2, hc2⟩)
          · have c3 := hc2.cell HC1.out (.inl (by omega))
            have f3 := hc2.froz HF1.out (by omega) (.inl (by omega))
            have b3 := hc2.cell HB1.out (.inr (by omega))
            have z3 := hc2.size
            have O2 := Lib.hid (O1.out.chg hc2 (.inr (by omega)))
            have D2 := Lib.hid (OD1.out.chg hc2 (.inr (by omega)))
            have E2 := Lib.hid (HOB.out.chg hc2 (.inr (by omega)))
            have T2 := Lib.hid (hc2.below HW1.out (by omega) (by omega))
            have hown2 := D2.out.1
            have hbase : v4.heap.size ≤ w2x.heap.size := by omega
            clear hc2 hs2
            go_wp2_with (at_builtin; refine wpList_ap rfl (.tmp 71) (.tmp 72) 27 rfl v4.heap.size 9 j0 _ 1 16 Tryz.underlying27 hj hj0 hj1 hj2 rfl (by omega) D ts.length ck (strv ts) rfl w2x hown2 1 #[.string ⟨#[49]⟩] w2x.heap.size rfl rfl rfl (by intro v hv; simp at hv; subst hv; rfl) (by omega) (by omega) (by omega) hbase ?_; intro gg cap w6 hown6 hb6 hg6 _ _)
            have C := chg_of hb6
            have c4 := C.cell c3 (.inl (by omega))
            have f4 := C.froz f3 (by omega) (.inl (by omega))
            have b4 := C.cell b3 (.inl (by omega))
            have O3 := Lib.hid (O2.out.chg C (.inl (by omega)))
            have E3 := Lib.hid (E2.out.kept hg6 (fun k hk => .inl (by have := D2.out.2 k hk; omega)))
            have T3 := Lib.hid (C.below T2.out (by omega) (by omega))
            have D3 := Lib.hid (show Ob w6 v4.heap.size w6.heap.size 9 1 (.slice (some ⟨gg, 0, none⟩) (ts ++ [oneB]).length cap) (ts ++ [oneB]).length (strv (ts ++ [oneB])) by rw [strv_snoc, List.length_append]; exact Ob.of hown6)
            have z6 := hg6.size
            clear hown6 hb6 hg6 C c3 f3 b3
            go_region
            all_goals
              go_wp2
              refine bodyPost_ret (v := .tuple #[.string s, .agg #[.slice B xs.length d], .slice E gs.length ce, .slice (some ⟨gg, 0, none⟩) (ts ++ [oneB]).length cap]) (by simp [results, Tryz.results8, go_sem, *]) rfl ⟨s, B, _, d, xs, E, ce, hs, some ⟨gg, 0, none⟩, cap, ts ++ [oneB], hs21, by rw [HHL.out], rfl, hn40, by rw [List.length_append, List.length_singleton]; omega, ?_, by rw [HHL.out]; have := HGL.out; omega, HLD.out, ?_, HCP.out, ?_, hcap.out, ?_, ?_⟩
              · intro y hy
                rcases List.mem_append.1 hy with hy | hy
                · exact H22.out y hy
                · rw [List.mem_singleton] at hy
                  subst hy
                  exact (show (1 : Nat) ≤ 22 by omega)
              · first | exact (O3.out.below _ _ _ (by omega)).rd | exact (O3.out.below _ _ _ (by omega)).rd.drew
              · first | exact (E3.out.below _ _ _ (by omega)).rd | exact (E3.out.below _ _ _ (by omega)).rd.drew
              · first | exact (D3.out.below _ _ _ (by omega)).rd | exact (D3.out.below _ _ _ (by omega)).rd.drew
              · first | exact bset T3.out _ _ _ (Nat.le_refl _) | exact (bset T3.out _ _ _ (Nat.le_refl _)).drew
          · have c3 := hc2.cell HC1.out (.inl (by omega))
            have f3 := hc2.froz HF1.out (by omega) (.inl (by omega))
            have b3 := hc2.cell HB1.out (.inr (by omega))
            have z3 := hc2.size
            have O3 := Lib.hid (O1.out.chg hc2 (.inr (by omega)))
            have D3 := Lib.hid (OD1.out.chg hc2 (.inr (by omega)))
            have E3 := Lib.hid (HOB.out.chg hc2 (.inr (by omega)))
            have T3 := Lib.hid (hc2.below HW1.out (by omega) (by omega))
            clear hc2 hs2
            go_wp2_with fail
            go_region
            all_goals
              go_wp2
              refine bodyPost_ret (v := .tuple #[.string s, .agg #[.slice B xs.length d], .slice E gs.length ce, .slice D ts.length ck]) (by simp [results, Tryz.results8, go_sem, *]) rfl ⟨s, B, _, d, xs, E, ce, hs, D, ck, ts, hs21, by rw [HHL.out], rfl, hn40, by omega, H22.out, by rw [HHL.out]; have := HGL.out; omega, HLD.out, ?_, HCP.out, ?_, hcap.out, ?_, ?_⟩
              · first | exact (O3.out.below _ _ _ (by omega)).rd | exact (O3.out.below _ _ _ (by omega)).rd.drew
              · first | exact (E3.out.below _ _ _ (by omega)).rd | exact (E3.out.below _ _ _ (by omega)).rd.drew
              · first | exact (D3.out.below _ _ _ (by omega)).rd | exact (D3.out.below _ _ _ (by omega)).rd.drew
              · first | exact bset T3.out _ _ _ (Nat.le_refl _) | exact (bset T3.out _ _ _ (Nat.le_refl _)).drew
        · have g1 : decide ((0 : Int) < (j' : Int)) = true := decide_eq_true hx1
          have g2 : decide ((0 : Int) < (gs.length : Int)) = false := decide_eq_false hx2
          go_wp2_with fail
          refine (one_any p _ 16 _ HS1.out (by omega) (by omega)).mono ?_
          rintro e w2x (⟨rfl, hs2, hc2⟩ | ⟨rfl, hs2, hc2⟩)
          · have c3 := hc2.cell HC1.out (.inl (by omega))
            have f3 := hc2.froz HF1.out (by omega) (.inl (by omega))
            have b3 := hc2.cell HB1.out (.inr (by omega))
            have z3 := hc2.size
            have O2 := Lib.hid (O1.out.chg hc2 (.inr (by omega)))
            have D2 := Lib.hid (OD1.out.chg hc2 (.inr (by omega)))
            have E2 := Lib.hid (HOB.out.chg hc2 (.inr (by omega)))
            have T2 := Lib.hid (hc2.below HW1.out (by omega) (by omega))
            have hown2 := D2.out.1
            have hbase : v4.heap.size ≤ w2x.heap.size := by omega
            clear hc2 hs2
            go_wp2_with (at_builtin; refine wpList_ap rfl (.tmp 71) (.tmp 72) 27 rfl v4.heap.size 9 j0 _ 1 16 Tryz.underlying27 hj hj0 hj1 hj2 rfl (by omega) D ts.length ck (strv ts) rfl w2x hown2 1 #[.string ⟨#[49]⟩] w2x.heap.size rfl rfl rfl (by intro v hv; simp at hv; subst hv; rfl) (by omega) (by omega) (by omega) hbase ?_; intro gg cap w6 hown6 hb6 hg6 _ _)
            have C := chg_of hb6
            have c4 := C.cell c3 (.inl (by omega))
            have f4 := C.froz f3 (by omega) (.inl (by omega))
            have b4 := C.cell b3 (.inl (by omega))
            have O3 := Lib.hid (O2.out.chg C (.inl (by omega)))
            have E3 := Lib.hid (E2.out.kept hg6 (fun k hk => .inl (by have := D2.out.2 k hk; omega)))
            have T3 := Lib.hid (C.below T2.out (by omega) (by omega))
            have D3 := Lib.hid (show Ob w6 v4.heap.size w6.heap.size 9 1 (.slice (some ⟨gg, 0, none⟩) (ts ++ [oneB]).length cap) (ts ++ [oneB]).length (strv (ts ++ [oneB])) by rw [strv_snoc, List.length_append]; exact Ob.of hown6)
            have z6 := hg6.size
            clear hown6 hb6 hg6 C c3 f3 b3
            go_region
            all_goals
              go_wp2
              refine bodyPost_ret (v := .tuple #[.string s, .agg #[.slice B xs.length d], .slice E gs.length ce, .slice (some ⟨gg, 0, none⟩) (ts ++ [oneB]).length cap]) (by simp [results, Tryz.results8, go_sem, *]) rfl ⟨s, B, _, d, xs, E, ce, hs, some ⟨gg, 0, none⟩, cap, ts ++ [oneB], hs21, by rw [HHL.out], rfl, hn40, by rw [List.length_append, List.length_singleton]; omega, ?_, by rw [HHL.out]; have := HGL.out; omega, HLD.out, ?_, HCP.out, ?_, hcap.out, ?_, ?_⟩
              · intro y hy
                rcases List.mem_append.1 hy with hy | hy
                · exact H22.out y hy
                · rw [List.mem_singleton] at hy
                  subst hy
                  exact (show (1 : Nat) ≤ 22 by omega)
              · first | exact (O3.out.below _ _ _ (by omega)).rd | exact (O3.out.below _ _ _ (by omega)).rd.drew
              · first | exact (E3.out.below _ _ _ (by omega)).rd | exact (E3.out.below _ _ _ (by omega)).rd.drew
              · first | exact (D3.out.below _ _ _ (by omega)).rd | exact (D3.out.below _ _ _ (by omega)).rd.drew
              · first | exact bset T3.out _ _ _ (Nat.le_refl _) | exact (bset T3.out _ _ _ (Nat.le_refl _)).drew
          · have c3 := hc2.cell HC1.out (.inl (by omega))
            have f3 := hc2.froz HF1.out (by omega) (.inl (by omega))
            have b3 := hc2.cell HB1.out (.inr (by omega))
            have z3 := hc2.size
            have O3 := Lib.hid (O1.out.chg hc2 (.inr (by omega)))
            have D3 := Lib.hid (OD1.out.chg hc2 (.inr (by omega)))
            have E3 := Lib.hid (HOB.out.chg hc2 (.inr (by omega)))
            have T3 := Lib.hid (hc2.below HW1.out (by omega) (by omega))
            clear hc2 hs2
            go_wp2_with fail
            go_region
            all_goals
              go_wp2
              refine bodyPost_ret (v := .tuple #[.string s, .agg #[.slice B xs.length d], .slice E gs.length ce, .slice D ts.length ck]) (by simp [results, Tryz.results8, go_sem, *]) rfl ⟨s, B, _, d, xs, E, ce, hs, D, ck, ts, hs21, by rw [HHL.out], rfl, hn40, by omega, H22.out, by rw [HHL.out]; have := HGL.out; omega, HLD.out, ?_, HCP.out, ?_, hcap.out, ?_, ?_⟩
              · first | exact (O3.out.below _ _ _ (by omega)).rd | exact (O3.out.below _ _ _ (by omega)).rd.drew
              · first | exact (E3.out.below _ _ _ (by omega)).rd | exact (E3.out.below _ _ _ (by omega)).rd.drew
              · first | exact (D3.out.below _ _ _ (by omega)).rd | exact (D3.out.below _ _ _ (by omega)).rd.drew
              · first | exact bset T3.out _ _ _ (Nat.le_refl _) | exact (bset T3.out _ _ _ (Nat.le_refl _)).drew
  · have n0 : (z != 0) = true := bne_t hz0
    have B6 := Lib.hid b4
    have C0 := Lib.hid c0
    have F0 := Lib.hid f0
    clear hz0 hz hcd
    go_wp2_with fail
    go_region_held3 (fun w' => w'.cell? ⟨w3.heap.size, 0, none⟩ = some (.slice B xs.length d)) (first | exact b4 | exact set_far b4 (by omega) | go_keep)
      ((go_at_call 36; refine (l02BentDeck_any p (0 + 70 + 260 + 600) _ ?_ (by omega)).mono ?_; (first | exact hs6 | exact hs6.drew); rintro e w7 ⟨F, cf, fs, rfl, hfl, hfL, hof, hs7, hc7⟩; have cx : Chg p (p + 1) v6 w7 := ⟨hc7.os, hc7.tape, hc7.output, hc7.size, hc7.block⟩; replace b4 := cx.cell B6.out (.inr (by omega)); replace c0 := cx.cell C0.out (.inl (by omega)); replace f0 := cx.froz F0.out (by omega) (.inl (by omega))))
    all_goals
      have HT7 := Lib.hid (cx.below HT6.out (by omega) (by omega))
      have HO7 := Lib.hid (HO6.out.chg cx (.inr (by omega)))
      have HOD7 := Lib.hid (HOD6.out.chg cx (.inr (by omega)))
      have HOF := Lib.hid (show ObD w7 v6.heap.size w7.heap.size 26 2 F cf fs from hof)
      have HCF := Lib.hid hof.cap.1
      have HFL := Lib.hid hfL
      have z7 := cx.size
      clear hof hfL hs7 hc7 cx
      go_wp2
      refine bodyPost_ret (v := .tuple #[.string s, .agg #[.slice B xs.length d], .slice F fs.length cf, .slice D ts.length ck]) (by simp [results, Tryz.results8, go_sem, *]) rfl ⟨s, B, _, d, xs, F, cf, fs, D, ck, ts, hs21, rfl, rfl, hn40, by omega, H22.out, hfl, HFL.out, ?_, HCP.out, ?_, HCF.out, ?_, ?_⟩
      · first | exact (HO7.out.below _ _ _ (by omega)).rd | exact (HO7.out.below _ _ _ (by omega)).rd.drew
      · first | exact (HOF.out.below _ _ _ (by omega)).rd | exact (HOF.out.below _ _ _ (by omega)).rd.drew
      · first | exact (HOD7.out.below _ _ _ (by omega)).rd | exact (HOD7.out.below _ _ _ (by omega)).rd.drew
      · first | exact bset HT7.out _ _ _ (Nat.le_refl _) | exact (bset HT7.out _ _ _ (Nat.le_refl _)).drew
end Go.Proofs.YtkmejkeanmjfbaaGreatDoor
