/- PunchAll, in the reference. -/
import Derived.Test.YtkmejkeanmjfbaaGreatDoorKd30
import Derived.Test.YtkmejkeanmjfbaaGreatDoorKd16
/-! ### PunchSp -/
namespace Go.Proofs.YtkmejkeanmjfbaaGreatDoor
open Go.RowKit

/-- A cell of another block is stored. -/
theorem ObD.other {w : World} {lo hi : Nat} {eD eC : TypeId} {D : Option Addr} {c : Nat} {hs : List Hd} (h : ObD w lo hi eD eC D c hs) {b : Nat} (hD : ∀ g, D = some ⟨g, 0, none⟩ → ¬ g = b) (hh : ∀ x ∈ hs, ∀ g, x.a = some ⟨g, 0, none⟩ → ¬ g = b) (o : Nat) (u : Value) : ObD (w.setCell ⟨b, o, none⟩ u) lo hi eD eC D c hs :=
  ⟨⟨ownsRow_setCell_other h.row.1 (gr_ne h.row.1 hD) _, h.row.2⟩, fun x hx => ⟨ownsRow_setCell_other (h.card x hx).1 (gr_ne (h.card x hx).1 (hh x hx)) _, (h.card x hx).2⟩, h.apart⟩
theorem Ob.other {w : World} {lo hi : Nat} {e : TypeId} {size n c : Nat} {A : Option Addr} {m : Nat} {xs : List Value} (h : Ob w lo hi e size (.slice A n c) m xs) {b : Nat} (hA : ∀ g, A = some ⟨g, 0, none⟩ → ¬ g = b) (o : Nat) (u : Value) : Ob (w.setCell ⟨b, o, none⟩ u) lo hi e size (.slice A n c) m xs :=
  ⟨ownsRow_setCell_other h.1 (gr_ne h.1 hA) _, h.2⟩
theorem befL_end {xs y : List Int} {L : List (List Int)} {k : Nat} (h : L.length = k) : befL xs (L ++ [y]) (k + 1) = y := by
  rw [befL_s, List.getD_eq_getElem?_getD, List.getElem?_append_right (by omega), h, Nat.sub_self]
  rfl
/-- Behind k keys. -/
def PaR (s : ByteArray) (A : Option Addr) (c : Nat) (xs : List Int) (ts : List ByteArray) (b10 : Nat) (W wr : World) (q9 q11 : Value) : Prop := ∃ (k : Nat) (D : Option Addr) (cd : Nat) (gs : List Hd) (h : Option Addr) (hc : Nat), k ≤ ts.length ∧ q11 = .int .i64 k ∧ q9 = .slice D gs.length cd ∧ cards gs = paL s xs (ts.take k) ∧ NoK s ts k ∧
  wr.cell? ⟨b10, 0, none⟩ = some (.slice h s.size hc) ∧ wr.frozen? ⟨b10, 0, none⟩ = false ∧ ((k = 0 ∧ h = A ∧ hc = c) ∨ ∃ hd ∈ gs, hd.a = h ∧ hd.xs = befL xs (paL s xs (ts.take k)) k) ∧ (befL xs (paL s xs (ts.take k)) k).length = s.size ∧
  ObD wr W.heap.size wr.heap.size 26 2 D cd gs ∧ Below W.heap.size W wr ∧ b10 < wr.heap.size ∧ (∀ g, D = some ⟨g, 0, none⟩ → ¬ g = b10) ∧ (∀ x ∈ gs, ∀ g, x.a = some ⟨g, 0, none⟩ → ¬ g = b10)

set_option maxRecDepth 100000 in
set_option maxHeartbeats 8000000 in
theorem spPunchAll_any (s : ByteArray) (A : Option Addr) (c : Nat) (xs : List Int) (K : Option Addr) (ck : Nat) (ts : List ByteArray) (w : World) (hs0 : s.size ≤ 1048576)
    (ha : Rd w w.heap.size 1 A xs.length (ints xs)) (hl : xs.length ≤ 1048576) (_hc : xs.length ≤ c) (hk : Rd w w.heap.size 1 K ts.length (strv ts)) (hl3 : ts.length ≤ 1048576) (ht : ∀ t ∈ ts, t.size ≤ 1048576) :
    Calls Tryz.prog 7 #[.string s, .agg #[.slice A xs.length c], .slice K ts.length ck] w fun e w' => ∃ D cd gs, e = .returned (.tuple #[.slice D gs.length cd, .int .i64 (paC s xs ts)]) ∧
      cards gs = paR s xs ts ∧ ObD w' w.heap.size w'.heap.size 26 2 D cd gs ∧ Below w.heap.size w w' := by
  obtain ⟨i0, hi, hi0, hi1, hi2⟩ := info_parts info_cardD
  have T0 := ba (b0 w) (.cells #[.slice A xs.length c] 26)
  have k5 := cell_new (w := w) (cs := #[.slice A xs.length c]) (e := 26) (j := 0) (H := w.heap.size) rfl rfl
  obtain ⟨W, hW⟩ : ∃ W, W = w.alloc (.cells #[.slice A xs.length c] 26) := ⟨_, rfl⟩
  have ra := ha.up T0
  have rk := hk.up T0
  rw [← hW] at T0 k5 ra rk
  have HW := Lib.hid hW
  have HT := Lib.hid ht
  obtain ⟨z, hz⟩ : ∃ z, z = l5C s xs := ⟨_, rfl⟩
  have HZ := Lib.hid hz
  have bad : ∀ q : Int, paC s xs ts = q → ¬ q = 0 → ∀ V : World, Below w.heap.size w V → ∃ D cd gs, Ending.returned (.tuple #[.slice none 0 0, .int .i64 q]) = .returned (.tuple #[.slice D (List.length gs) cd, .int .i64 (paC s xs ts)]) ∧ cards gs = paR s xs ts ∧ ObD V w.heap.size V.heap.size 26 2 D cd gs ∧ Below w.heap.size w V := fun q h1 h2 V hV =>
    ⟨none, 0, [], by rw [h1]; rfl, by rw [paR_1 (by rw [h1]; exact h2)]; rfl, ObD.nil _ _ _ _ _, hV⟩
  have HBAD := Lib.hid bad
  clear hW ha hk ht hz bad
  go_enter Tryz.func7, Tryz.ntmps7
  go_wp2_with fail
  rw [← HW.out]
  refine (l05Code_any s w.heap.size 0 A c xs _ k5 ra hl hs0).mono ?_
  rw [← HZ.out]
  rintro e w1 ⟨rfl, hb1⟩
  have T1 := bs T0 hb1
  by_cases hz0 : z = 0
  · have HZ0 := Lib.hid (show l5C s xs = 0 by rw [← HZ.out, hz0])
    have HXL := Lib.hid (l5C_0 HZ0.out)
    have hs20 : s.size ≤ 20 := (progB_len HXL.out.1).2
    have n0 : (z == 0) = true := beq_t hz0
    have n1 : (z != 0) = false := bne_f hz0
    by_cases hm : 40 < ts.length
    · have m1 : decide ((40 : Int) < (ts.length : Int)) = true := decide_eq_true (by omega)
      have HB := Lib.hid (HBAD.out 5 (paC_5 HZ0.out hm) (by omega) _ T1)
      clear hm
      go_wp2
      go_ret2
      exact HB.out
    · have m1 : decide ((40 : Int) < (ts.length : Int)) = false := decide_eq_false (by omega)
      have hm40 : ts.length ≤ 40 := by omega
      have q5 := cell_alloc (cell_later hb1 k5) (.cells #[] 26)
      have z1 := hb1.size
      have hrow : ((w1.alloc (.cells #[] 26)).alloc (.cells #[.slice A xs.length c] 26)).ownsRow W.heap.size 26 1 (.slice (some ⟨w1.heap.size, 0, none⟩) 0 0) 0 [] := (own_lit w1 #[] 0 rfl z1 (by omega) rfl).alloc _
      have HROW := Lib.hid hrow
      have HBX := Lib.hid (show Below W.heap.size W ((w1.alloc (.cells #[] 26)).alloc (.cells #[.slice A xs.length c] 26)) from ba (ba hb1 _) _)
      have HKB := Lib.hid (show ((w1.alloc (.cells #[] 26)).alloc (.cells #[.slice A xs.length c] 26)).cell? ⟨w1.heap.size + 1, 0, none⟩ = some (.slice A xs.length c) from cell_new (by simp) rfl)
      have HFB := Lib.hid (show ((w1.alloc (.cells #[] 26)).alloc (.cells #[.slice A xs.length c] 26)).frozen? ⟨w1.heap.size + 1, 0, none⟩ = false from froz_new (by simp))
      clear hm hz0 hrow
      go_wp2
      go_loopw [8, 9, 11] (fun _ q9 q11 wr => PaR s A c xs ts (w1.heap.size + 1) W wr q9 q11) (fun _ _ q _ => ts.length - (intOf q).toNat)
      case atStart =>
        have e := HXL.out.2.2
        refine ⟨0, some ⟨w1.heap.size, 0, none⟩, 0, [], A, c, Nat.zero_le _, rfl, rfl, rfl, NoK.zero _ _, by rw [← e]; exact HKB.out, HFB.out, .inl ⟨rfl, rfl, rfl⟩, e, ObD.empty (Ob.of HROW.out), HBX.out, by simp, fun g hg => ?_, by simp⟩
        injection hg with hg
        injection hg with hg
        omega
      case round =>
        obtain ⟨wo, rfl⟩ : ∃ wo : World, wo = wr := ⟨_, rfl⟩
        obtain ⟨k, D, cd, gs, h, hc, hkn, rfl, rfl, hcd, hno, kb, fb, hbf, hbl, hob, hbw, hbz, hD, hh⟩ := hrel
        have hwo := hbw.size
        have HBW := Lib.hid hbw
        have hgl : gs.length = k := by
          have := congrArg List.length hcd
          rw [cards_length, paL_length, List.length_take] at this
          omega
        by_cases hlt : k < ts.length
        · have i1 : (k : Int) < (ts.length : Int) := by omega
          obtain ⟨bK, oK, hKe, _, hcK⟩ := (rk.up hbw).at_ hlt
          have dK := hcK k _ (strv_get ts k hlt)
          subst hKe
          have HTX := Lib.hid (txt_at hlt)
          have HTS := Lib.hid (HT.out ts[k] (List.getElem_mem hlt))
          obtain ⟨t, ht⟩ : ∃ t, t = ts[k] := ⟨_, rfl⟩
          rw [← ht] at dK HTX HTS
          obtain ⟨y, hy⟩ : ∃ y, y = chkC s t := ⟨_, rfl⟩
          have HY := Lib.hid hy
          have HNO := Lib.hid hno
          obtain ⟨L, hL⟩ : ∃ L, L = paL s xs (ts.take k) := ⟨_, rfl⟩
          have HNX := Lib.hid (paL_next (s := s) (xs := xs) hlt)
          rw [← hL] at hcd hbf hbl HNX
          obtain ⟨u, hu⟩ : ∃ u, u = befL xs L k := ⟨_, rfl⟩
          have HLL := Lib.hid (show L.length = k by rw [hL, paL_length, List.length_take]; omega)
          have HBE := Lib.hid (fun y => befL_end (xs := xs) (y := y) HLL.out)
          rw [← hu] at hbf hbl HNX
          rw [HTX.out] at HNX
          have rb : Rd wo wo.heap.size 1 h s.size (ints u) := by
            rcases hbf with ⟨rfl, rfl, rfl⟩ | ⟨hd, hdm, rfl, hdx⟩
            · rw [hu, befL_0, ← HXL.out.2.2]
              exact ra.up hbw
            · have := hob.rd.card hd hdm
              rw [hdx, hbl] at this
              exact this
          have HBL := Lib.hid hbl
          have HCD := Lib.hid hcd
          have HD := Lib.hid hD
          have HH := Lib.hid hh
          have HOB := Lib.hid hob
          clear hcK ht hy hno hu hL hbf hbl hcd hD hh hob hbw
          go_wp2_with fail
          refine (l05Check_any s t _ HXL.out.1 HTS.out).mono ?_
          rw [← HY.out]
          rintro e w3 ⟨rfl, rfl⟩
          by_cases hy0 : y = 0
          · have y0 : (y != 0) = false := bne_f hy0
            have HYZ := Lib.hid (show chkC s t = 0 by rw [← HY.out, hy0])
            have HN2 := Lib.hid (HNO.out.succ (by rw [HTX.out]; exact HYZ.out))
            have HPU := Lib.hid (l05Punch_any s t (w1.heap.size + 1) 0 h hc u _ HXL.out.1 HBL.out kb rb (chk_zero HYZ.out).1)
            obtain ⟨v, hv⟩ : ∃ v, v = pchL s u t := ⟨_, rfl⟩
            have HV := Lib.hid (show v.length = s.size by rw [hv, pchL_length])
            rw [← hv] at HPU HNX
            clear hv hy0 rb
            go_wp2_with fail
            refine HPU.out.mono ?_
            rintro e w4 ⟨B, d, rfl, ho4, hb4⟩
            have kb4 := cell_later hb4 kb
            have fb4 := froz_later hb4 fb hbz
            have z4 := hb4.size
            have hBb : ∀ g, B = some ⟨g, 0, none⟩ → ¬ g = w1.heap.size + 1 := fun g hg => by
              have := (ho4.lt g (by rw [hg]; rfl)).1
              omega
            have hob4 := (HOB.out.bs hb4).other HD.out HH.out 0 (.slice B s.size d)
            have hoc4 := (Ob.of ho4).other hBb 0 (.slice B s.size d)
            have hrow4 := hob4.row.1
            rw [hgl] at hrow4
            have HOB4 := Lib.hid hob4
            have HOC4 := Lib.hid hoc4
            have HROW4 := Lib.hid hrow4
            have kc4 := World.cell?_setCell_same w4 ⟨w1.heap.size + 1, 0, none⟩ (.slice B s.size d) kb4
            have fc4 : (w4.setCell ⟨w1.heap.size + 1, 0, none⟩ (.slice B s.size d)).frozen? ⟨w1.heap.size + 1, 0, none⟩ = false := by simp [fb4]
            have HKC4 := Lib.hid kc4
            have HFC4 := Lib.hid fc4
            have HBW4 := Lib.hid (bset (HBW.out.trans (hb4.mono hwo)) (w1.heap.size + 1) 0 (.slice B s.size d) (by omega))
            have hbase : W.heap.size ≤ (w4.setCell ⟨w1.heap.size + 1, 0, none⟩ (.slice B s.size d)).heap.size := HBW4.out.size
            clear ho4 hb4 hob4 hoc4 kc4 fc4 dK
            go_wp2_with (at_builtin; refine wpList_ap rfl (.tmp 47) (.tmp 49) 30 rfl W.heap.size 26 i0 _ 1 24 Tryz.underlying30 hi hi0 hi1 hi2 rfl (by omega) D k cd (heads gs) rfl (w4.setCell ⟨w1.heap.size + 1, 0, none⟩ (.slice B s.size d)) hrow4 1 #[.slice B s.size d] w4.heap.size (by rw [World.size_setCell]) rfl rfl (one_slice _ _ _) (by omega) (by omega) (by omega) hbase ?_; intro g cap w6 hown6 hb6 hg6 hgg hgs)
            have hg6' : (w4.setCell ⟨w1.heap.size + 1, 0, none⟩ (.slice B s.size d)).grownBy w6 (Value.slice D gs.length cd).ownBlock := by rw [hgl]; exact hg6
            have hsn := HOB4.out.snoc (by decide) (B := B) (d := d) (xs := v) (by rw [HV.out]; exact HOC4.out) (Nat.le_refl _) hwo (by rw [hgl, HV.out]; exact hown6) hg6' (by rw [World.size_setCell]; exact z4) (by rw [World.size_setCell]; exact Nat.le_refl _)
            refine ⟨⟨k + 1, some ⟨g, 0, none⟩, cap, gs ++ [⟨B, d, v⟩], B, d, hlt, by go_num, by rw [List.length_append, hgl]; rfl, by rw [cards_append, HCD.out, HNX.out]; rfl, HN2.out, gr_cell HROW4.out hg6 HD.out HKC4.out, gr_froz HROW4.out hg6 HD.out HFC4.out (by rw [World.size_setCell]; omega), .inr ⟨⟨B, d, v⟩, by simp, rfl, by rw [HNX.out, HBE.out]⟩, by rw [HNX.out, HBE.out, HV.out], hsn, HBW4.out.trans hb6, ?_, ?_, ?_⟩, by simp [intOf]; omega⟩
            · have := hg6.size
              rw [World.size_setCell] at this
              omega
            · intro g' hg'
              injection hg' with hg'
              injection hg' with hg'
              subst hg'
              rcases hgg with hgg | hgg
              · exact HD.out g hgg
              · rw [World.size_setCell] at hgg
                omega
            · intro x hx g' hg'
              rcases List.mem_append.1 hx with hx | hx
              · exact HH.out x hx g' hg'
              · rw [List.mem_singleton] at hx
                subst hx
                exact hBb g' hg'
          · have y0 : (y != 0) = true := bne_t hy0
            have HC := Lib.hid (HBAD.out y (by rw [paC_some HZ0.out hm40 hlt HNO.out (by rw [HTX.out, ← HY.out]; exact hy0), HTX.out, HY.out]) hy0 _ (T0.trans (HBW.out.mono T0.size)))
            go_wp2
            go_ret2
            exact HC.out
        · obtain rfl : k = ts.length := by omega
          have HZ2 := Lib.hid (paC_none HZ0.out hm40 hno)
          have HR2 := Lib.hid (paR_0 HZ2.out)
          rw [List.take_of_length_le (Nat.le_refl _)] at hcd
          have HCD := Lib.hid hcd
          have HOB := Lib.hid hob
          clear hcd hob hbf hbl
          go_wp2
          go_ret2
          rw [HZ2.out, HR2.out]
          exact ⟨D, cd, gs, rfl, HCD.out, HOB.out.mono T0.size (Nat.le_refl _), T0.trans (HBW.out.mono T0.size)⟩
  · have n0 : (z == 0) = false := beq_f hz0
    have n1 : (z != 0) = true := bne_t hz0
    have HB := Lib.hid (HBAD.out z (by rw [paC_z (by rw [← HZ.out]; exact hz0), HZ.out]) hz0 _ T1)
    go_wp2
    go_ret2
    exact HB.out
end Go.Proofs.YtkmejkeanmjfbaaGreatDoor
