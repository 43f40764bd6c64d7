/- PunchAll, in the program. -/
import Derived.Test.YtkmejkeanmjfbaaGreatDoorKd31
/-! ### PunchIm -/
namespace Go.Proofs.YtkmejkeanmjfbaaGreatDoor
open Go.RowKit

set_option maxRecDepth 100000 in
set_option maxHeartbeats 8000000 in
theorem PunchAll_any (s : ByteArray) (A : Option Addr) (c : Nat) (xs : List Int) (K : Option Addr) (ck : Nat) (ts : List ByteArray) (w : World) (hs0 : s.size ≤ 1048576)
    (ha : Rd w w.heap.size 1 A xs.length (ints xs)) (hl : xs.length ≤ 1048576) (hc0 : xs.length ≤ c) (hk : Rd w w.heap.size 1 K ts.length (strv ts)) (hl3 : ts.length ≤ 1048576) (ht : ∀ t ∈ ts, t.size ≤ 1048576) :
    Calls Tryz.prog 6 #[.string s, .agg #[.slice A xs.length c], .slice K ts.length ck] w fun e w' => ∃ D cd gs, e = .returned (.tuple #[.slice D gs.length cd, .int .i64 (paC s xs ts)]) ∧
      cards gs = paR s xs ts ∧ ObD w' w.heap.size w'.heap.size 26 2 D cd gs ∧ Below w.heap.size w w' := by
  obtain ⟨i0, hi, hi0, hi1, hi2⟩ := info_parts info_cardD
  have T0 := ba (b0 w) (.cells #[.slice A xs.length c] 26)
  have k5 := cell_new (w := w) (cs := #[.slice A xs.length c]) (e := 26) (j := 0) (H := w.heap.size) rfl rfl
  obtain ⟨W, hW⟩ : ∃ W, W = w.alloc (.cells #[.slice A xs.length c] 26) := ⟨_, rfl⟩
  have ra := ha.up T0
  have rk := hk.up T0
  rw [← hW] at T0 k5 ra rk
  have HW := Lib.hid hW
  have HT := Lib.hid ht
  obtain ⟨z, hz⟩ : ∃ z, z = l5C s xs := ⟨_, rfl⟩
  have HZ := Lib.hid hz
  have HWZ := Lib.hid (show w.heap.size + 1 = W.heap.size by rw [hW]; simp)
  have HPC := Lib.hid (show Calls Tryz.prog 31 #[.string s, .bool true, .slice (some ⟨w.heap.size + 1, 0, none⟩) 1 1] (W.alloc (.cells #[.slice A xs.length c] 26)) (fun e w' => e = .returned (.int .i64 z) ∧ Below (W.alloc (.cells #[.slice A xs.length c] 26)).heap.size (W.alloc (.cells #[.slice A xs.length c] 26)) w') from by
    have h := programCode_any s true (some ⟨W.heap.size, 0, none⟩) 1 [⟨A, c, xs⟩] (W.alloc (.cells #[.slice A xs.length c] 26)) (rdd1 ra hc0) (by simp) hs0 (fun h hh => by
      simp only [List.mem_cons, List.not_mem_nil, or_false] at hh
      subst hh
      exact hl)
    rw [show cards [⟨A, c, xs⟩] = [xs] from rfl, pg_one, ← hz, ← HWZ.out] at h
    exact h)
  have bad : ∀ q : Int, paC s xs ts = q → ¬ q = 0 → ∀ V : World, Below w.heap.size w V → ∃ D cd gs, Ending.returned (.tuple #[.slice none 0 0, .int .i64 q]) = .returned (.tuple #[.slice D (List.length gs) cd, .int .i64 (paC s xs ts)]) ∧ cards gs = paR s xs ts ∧ ObD V w.heap.size V.heap.size 26 2 D cd gs ∧ Below w.heap.size w V := fun q h1 h2 V hV =>
    ⟨none, 0, [], by rw [h1]; rfl, by rw [paR_1 (by rw [h1]; exact h2)]; rfl, ObD.nil _ _ _ _ _, hV⟩
  have HBAD := Lib.hid bad
  have TB := ba (b0 W) (.cells #[.slice A xs.length c] 26)
  clear hW ha hk ht hz bad
  go_enter Tryz.func6, Tryz.ntmps6
  go_wp2_with fail
  rw [← HW.out]
  refine HPC.out.mono ?_
  rintro e w1 ⟨rfl, hb1'⟩
  have hb1 := bs TB hb1'
  have T1 := bs T0 hb1
  have q5 := cell_later hb1 k5
  clear hb1' TB k5 HPC
  by_cases hz0 : z = 0
  · have HZ0 := Lib.hid (show l5C s xs = 0 by rw [← HZ.out, hz0])
    have HXL := Lib.hid (l5C_0 HZ0.out)
    have hs20 : s.size ≤ 20 := (progB_len HXL.out.1).2
    have n1 : (z != 0) = false := bne_f hz0
    by_cases hm : 40 < ts.length
    · have m1 : (40 : Int) < (ts.length : Int) := by omega
      have HB := Lib.hid (HBAD.out 5 (paC_5 HZ0.out hm) (by omega) _ T1)
      clear hm
      go_wp2
      go_ret2
      exact HB.out
    · have m1 : ¬ (40 : Int) < (ts.length : Int) := by omega
      have hm40 : ts.length ≤ 40 := by omega
      clear hm hz0
      go_wp2_with fail
      go_cut [9, 10] (fun s9 s10 wx => ∃ g b : Nat, s9 = .slice (some ⟨g, 0, none⟩) 0 0 ∧ s10 = .pointer (some ⟨b, 0, none⟩) ∧ ¬ g = b ∧ W.heap.size ≤ b ∧ wx.ownsRow W.heap.size 26 1 (.slice (some ⟨g, 0, none⟩) 0 0) 0 [] ∧ wx.cell? ⟨b, 0, none⟩ = some (.slice A xs.length c) ∧ wx.frozen? ⟨b, 0, none⟩ = false ∧ Below W.heap.size W wx ∧ b < wx.heap.size)
      case first =>
        have zb := hb1.size
        have q51 := cell_alloc q5 (.cells #[] 26)
        have q52 := cell_alloc q5 (.cells #[.slice none 0 0] 26)
        have q53 := cell_alloc q51 (.cells #[.slice none 0 0] 26)
        have q54 := cell_alloc q52 (.cells #[] 26)
        go_region
        all_goals go_wp2_with fail
        all_goals go_meet
        all_goals first
          | exact ⟨w1.heap.size, w1.heap.size + 1, rfl, rfl, by omega, by omega, (own_lit w1 #[] 0 rfl zb (by omega) rfl).alloc _, cell_new (by simp) rfl, froz_new (by simp), ((hb1.alloc zb _).alloc (by simp; omega) _).drew, by simp <;> omega⟩
          | exact ⟨w1.heap.size + 1, w1.heap.size, rfl, rfl, by omega, by omega, own_lit (w1.alloc (.cells #[.slice A xs.length c] 26)) #[] 0 (by simp) (by simp; omega) (by omega) rfl, cell_alloc (cell_new rfl rfl) _, froz_alloc (froz_new rfl) (by simp) _, ((hb1.alloc zb _).alloc (by simp; omega) _).drew, by simp <;> omega⟩
          | exact ⟨w1.heap.size, w1.heap.size + 1, rfl, rfl, by omega, by omega, (own_lit w1 #[] 0 rfl zb (by omega) rfl).alloc _, cell_new (by simp) rfl, froz_new (by simp), (hb1.alloc zb _).alloc (by simp; omega) _, by simp <;> omega⟩
          | exact ⟨w1.heap.size + 1, w1.heap.size, rfl, rfl, by omega, by omega, own_lit (w1.alloc (.cells #[.slice A xs.length c] 26)) #[] 0 (by simp) (by simp; omega) (by omega) rfl, cell_alloc (cell_new rfl rfl) _, froz_alloc (froz_new rfl) (by simp) _, (hb1.alloc zb _).alloc (by simp; omega) _, by simp <;> omega⟩
      obtain ⟨w2, hw2⟩ : ∃ x : World, x = wc := ⟨_, rfl⟩
      subst hw2
      obtain ⟨g0, b12, rfl, rfl, hgb, hWb, hrow, kb0, fb0, hb2, hb12⟩ := hcut
      have HROW := Lib.hid hrow
      have HB2 := Lib.hid hb2
      have HKB := Lib.hid kb0
      have HFB := Lib.hid fb0
      clear hrow hb2 hb1 q5 T1 kb0 fb0
      go_wp2
      go_loopw [9, 12, 13, 14, 29] (fun q9 _ _ _ q29 wr => PaR s A c xs ts b12 W wr q9 q29) (fun _ _ _ _ q _ => ts.length - (intOf q).toNat)
      case atStart =>
        have e := HXL.out.2.2
        refine ⟨0, some ⟨g0, 0, none⟩, 0, [], A, c, Nat.zero_le _, rfl, rfl, rfl, NoK.zero _ _, by rw [← e]; exact HKB.out, HFB.out, .inl ⟨rfl, rfl, rfl⟩, e, ObD.empty (Ob.of HROW.out), HB2.out, hb12, fun g hg => ?_, by simp⟩
        injection hg with hg
        injection hg with hg
        omega
      case round =>
        obtain ⟨wo, rfl⟩ : ∃ wo : World, wo = wr := ⟨_, rfl⟩
        obtain ⟨k, D, cd, gs, h, hc, hkn, rfl, rfl, hcd, hno, kb, fb, hbf, hbl, hob, hbw, hbz, hD, hh⟩ := hrel
        have hwo := hbw.size
        have HBW := Lib.hid hbw
        have hgl : gs.length = k := by
          have := congrArg List.length hcd
          rw [cards_length, paL_length, List.length_take] at this
          omega
        by_cases hlt : k < ts.length
        · have i1 : (k : Int) < (ts.length : Int) := by omega
          obtain ⟨bK, oK, hKe, _, hcK⟩ := (rk.up hbw).at_ hlt
          have dK := hcK k _ (strv_get ts k hlt)
          subst hKe
          have HTX := Lib.hid (txt_at hlt)
          have HTS := Lib.hid (HT.out ts[k] (List.getElem_mem hlt))
          obtain ⟨t, ht⟩ : ∃ t, t = ts[k] := ⟨_, rfl⟩
          rw [← ht] at dK HTX HTS
          obtain ⟨y, hy⟩ : ∃ y, y = chkC s t := ⟨_, rfl⟩
          have HY := Lib.hid hy
          have HNO := Lib.hid hno
          obtain ⟨L, hL⟩ : ∃ L, L = paL s xs (ts.take k) := ⟨_, rfl⟩
          have HNX := Lib.hid (paL_next (s := s) (xs := xs) hlt)
          rw [← hL] at hcd hbf hbl HNX
          obtain ⟨u, hu⟩ : ∃ u, u = befL xs L k := ⟨_, rfl⟩
          have HLL := Lib.hid (show L.length = k by rw [hL, paL_length, List.length_take]; omega)
          have HBE := Lib.hid (fun y => befL_end (xs := xs) (y := y) HLL.out)
          rw [← hu] at hbf hbl HNX
          rw [HTX.out] at HNX
          have rb : Rd wo wo.heap.size 1 h s.size (ints u) := by
            rcases hbf with ⟨rfl, rfl, rfl⟩ | ⟨hd, hdm, rfl, hdx⟩
            · rw [hu, befL_0, ← HXL.out.2.2]
              exact ra.up hbw
            · have := hob.rd.card hd hdm
              rw [hdx, hbl] at this
              exact this
          have HBL := Lib.hid hbl
          have HCD := Lib.hid hcd
          have HD := Lib.hid hD
          have HH := Lib.hid hh
          have HOB := Lib.hid hob
          have HPU := Lib.hid (punched_any s t h hc u wo HXL.out.1 hbl rb HTS.out)
          rw [← HY.out] at HPU
          clear hcK ht hy hno hu hL hbf hbl hcd hD hh hob hbw rb
          go_wp2_with fail
          refine HPU.out.mono ?_
          rintro e w4 ⟨B, d, rfl, ho4, hb4⟩
          by_cases hy0 : y = 0
          · have y0 : (y != 0) = false := bne_f hy0
            have HYZ := Lib.hid (show chkC s t = 0 by rw [← HY.out, hy0])
            have HN2 := Lib.hid (HNO.out.succ (by rw [HTX.out]; exact HYZ.out))
            have HRR := Lib.hid (pchR_0 (xs := u) HYZ.out)
            rw [HRR.out] at ho4 ⊢
            obtain ⟨v, hv⟩ : ∃ v, v = pchL s u t := ⟨_, rfl⟩
            have HV := Lib.hid (show v.length = s.size by rw [hv, pchL_length])
            rw [← hv] at ho4 HNX ⊢
            rw [HV.out] at ho4 ⊢
            have z4 := hb4.size
            have hBb : ∀ g, B = some ⟨g, 0, none⟩ → ¬ g = b12 := fun g hg => by
              have := (ho4.lt g (by rw [hg]; rfl)).1
              omega
            have TA := ba (b0 w4) (.cells #[.slice B s.size d] 26)
            obtain ⟨X, hX⟩ : ∃ X, X = w4.alloc (.cells #[.slice B s.size d] 26) := ⟨_, rfl⟩
            have hXs : X.heap.size = w4.heap.size + 1 := by rw [hX]; simp
            have kc : X.cell? ⟨w4.heap.size, 0, none⟩ = some (.slice B s.size d) := by rw [hX]; exact cell_new rfl rfl
            have kbX : X.cell? ⟨b12, 0, none⟩ = some (.slice h s.size hc) := by rw [hX]; exact cell_later TA (cell_later hb4 kb)
            have fbX : X.frozen? ⟨b12, 0, none⟩ = false := by rw [hX]; exact froz_later TA (froz_later hb4 fb hbz) (by omega)
            have hoc := (Ob.of ho4).bs TA
            have hobX := (HOB.out.bs hb4).bs TA
            have HBX := Lib.hid (show Below W.heap.size W X by rw [hX]; exact (HBW.out.trans (hb4.mono hwo)).trans (TA.mono (by omega)))
            rw [← hX] at hoc hobX
            have hrowX := hobX.row.1
            rw [hgl] at hrowX
            have HOBX := Lib.hid hobX
            have HOC := Lib.hid hoc
            have HROWX := Lib.hid hrowX
            have HX := Lib.hid hX
            have HKBX := Lib.hid kbX
            have HFBX := Lib.hid fbX
            have hbase : W.heap.size ≤ X.heap.size := HBX.out.size
            have hne4 : ∀ g, D = some ⟨g, 0, none⟩ → ¬ g = w4.heap.size := fun g hg => by
              have := (hrowX.lt g (by rw [hg]; rfl)).2
              have h2 := HOB.out.row.2 g (by rw [hg]; rfl)
              omega
            have HNE4 := Lib.hid hne4
            clear ho4 hb4 hobX hoc dK hv hX TA kb fb hne4
            go_upto_region 13 with fail
            rw [← HX.out]
            go_wp2_with (at_builtin; refine wpList_ap rfl (.tmp 43) (.tmp 45) 30 rfl W.heap.size 26 i0 _ 1 24 Tryz.underlying30 hi hi0 hi1 hi2 rfl (by omega) D k cd (heads gs) rfl X hrowX 1 #[.slice B s.size d] (w4.heap.size + 1) hXs.symm rfl rfl (one_slice _ _ _) (by omega) (by omega) (by omega) hbase ?_; intro g cap w6 hown6 hb6 hg6 hgg hgs; have kc6 := gr_cell HROWX.out hg6 HNE4.out kc; have kb6 := gr_cell HROWX.out hg6 HD.out HKBX.out; have fb6 := gr_froz HROWX.out hg6 HD.out HFBX.out (by omega))
            have hg6' : X.grownBy w6 (Value.slice D gs.length cd).ownBlock := by rw [hgl]; exact hg6
            have z6 := hg6.size
            have hD6 : ∀ g', (some (⟨g, 0, none⟩ : Addr)) = some ⟨g', 0, none⟩ → ¬ g' = b12 := by
              intro g' hg'
              injection hg' with hg'
              injection hg' with hg'
              subst hg'
              rcases hgg with hgg | hgg
              · exact HD.out g hgg
              · omega
            have hH6 : ∀ x ∈ gs ++ [(⟨B, d, v⟩ : Hd)], ∀ g', x.a = some ⟨g', 0, none⟩ → ¬ g' = b12 := by
              intro x hx g' hg'
              rcases List.mem_append.1 hx with hx | hx
              · exact HH.out x hx g' hg'
              · rw [List.mem_singleton] at hx
                subst hx
                exact hBb g' hg'
            have hsn := (HOBX.out.snoc (by decide) (B := B) (d := d) (xs := v) (by rw [HV.out]; exact HOC.out) (Nat.le_refl _) hwo (by rw [hgl, HV.out]; exact hown6) hg6' (by omega) (by omega)).other (b := b12) hD6 hH6 0 (.slice B s.size d)
            have HSN := Lib.hid hsn
            refine ⟨⟨k + 1, some ⟨g, 0, none⟩, cap, gs ++ [⟨B, d, v⟩], B, d, hlt, by go_num, by rw [List.length_append, hgl]; rfl, by rw [cards_append, HCD.out, HNX.out]; rfl, HN2.out, World.cell?_setCell_same _ _ _ kb6, by simp [fb6], .inr ⟨⟨B, d, v⟩, by simp, rfl, by rw [HNX.out, HBE.out]⟩, by rw [HNX.out, HBE.out, HV.out], by rw [World.size_setCell]; exact HSN.out, bset (HBX.out.trans hb6) _ _ _ hWb, by rw [World.size_setCell]; omega, hD6, hH6⟩, by simp [intOf]; omega⟩
          · have y0 : (y != 0) = true := bne_t hy0
            have HC := Lib.hid (fun V (hV : Below w.heap.size w V) => HBAD.out y (by rw [paC_some HZ0.out hm40 hlt HNO.out (by rw [HTX.out, ← HY.out]; exact hy0), HTX.out, HY.out]) hy0 V hV)
            have HB4 := Lib.hid (show Below w.heap.size w w4 from T0.trans ((HBW.out.trans (hb4.mono hwo)).mono T0.size))
            clear ho4
            go_wp2
            go_ret2
            exact HC.out _ (ba HB4.out _)
        · obtain rfl : k = ts.length := by omega
          have HZ2 := Lib.hid (paC_none HZ0.out hm40 hno)
          have HR2 := Lib.hid (paR_0 HZ2.out)
          rw [List.take_of_length_le (Nat.le_refl _)] at hcd
          have HCD := Lib.hid hcd
          have HOB := Lib.hid hob
          clear hcd hob hbf hbl
          go_wp2
          go_ret2
          rw [HZ2.out, HR2.out]
          exact ⟨D, cd, gs, rfl, HCD.out, HOB.out.mono T0.size (Nat.le_refl _), T0.trans (HBW.out.mono T0.size)⟩
  · have n1 : (z != 0) = true := bne_t hz0
    have HB := Lib.hid (HBAD.out z (by rw [paC_z (by rw [← HZ.out]; exact hz0), HZ.out]) hz0 _ T1)
    go_wp2
    go_ret2
    exact HB.out
end Go.Proofs.YtkmejkeanmjfbaaGreatDoor
