/- slices.SortStableFunc over []int64: merging, where one of the two parts is a single number. -/
import Derived.Test.YteeaeomkpecflaaSortIns
namespace Go.Proofs.Yteeaeomkpecflaa
open Go.RowKit

theorem bsr_yes {p : Nat → Bool} {i j h : Nat} (hij : i < j) (hh : h = (i + j) / 2) (hp : p h = true) : bsr p (h + 1) j = bsr p i j := by
  subst hh
  conv => rhs; rw [bsr, dif_pos hij, if_pos hp]
theorem bsr_no {p : Nat → Bool} {i j h : Nat} (hij : i < j) (hh : h = (i + j) / 2) (hp : p h = false) : bsr p i h = bsr p i j := by
  subst hh
  conv => rhs; rw [bsr, dif_pos hij, if_neg (by simp [hp])]
theorem bsr_end {p : Nat → Bool} {i j : Nat} (hij : ¬ i < j) : bsr p i j = i := by rw [bsr, dif_neg hij]

set_option maxRecDepth 20000 in
set_option maxHeartbeats 8000000 in
theorem symLeft_any (base g n c a m b : Nat) (F : FuncId) (cb : Array Value) (cf : Int → Int → Int) (key : Int → Int) (f : Nat → Int) (w : World) (eg : ∀ args w, (callFunc F args).run Try.prog w = .ok (.enter F args) w)
    (hcmp : CmpOk F cb cf base n w) (hcf : ∀ x y : Int, 0 ≤ x → x < n → 0 ≤ y → y < n → (cf x y < 0 ↔ key x < key y)) (h : Row w base g n c f) (hv : Vals f n) (ham : m - a = 1) (hmb : m < b) (hb : b ≤ n) (hn : n ≤ 1048576) :
    Calls Try.prog 146 #[.slice (some ⟨g, 0, none⟩) n c, .int .i64 a, .int .i64 m, .int .i64 b, .func (.func F) #[] cb] w fun e w' => e = .returned (.tuple #[]) ∧ Row w' base g n c (mvUp a (bsr (fun h => decide (key (f h) < key (f a))) m b - 1 - a) f) ∧ w.grownBy w' (some g) := by
  have HC := Lib.hid hcmp
  have HF := Lib.hid hcf
  have HV := Lib.hid hv
  obtain ⟨hbg, hgw⟩ := h.base
  have hbw : base ≤ w.heap.size := by omega
  obtain ⟨p, hp⟩ : ∃ p, p = fun h => decide (key (f h) < key (f a)) := ⟨_, rfl⟩
  have HP := Lib.hid hp
  rw [← hp]
  have e1 : (((m : Int) - (a : Int)) == 1) = true := beq_t (by omega)
  have hma : a < m := by omega
  clear hcmp hcf hv hp ham
  go_enter Try.func146, Try.ntmps146
  go_wp2
  go_loopw [10, 11] (fun vi vj wr => ∃ (i j : Nat), m ≤ i ∧ i ≤ j ∧ j ≤ b ∧ vi = .int .i64 i ∧ vj = .int .i64 j ∧ Hid (bsr p i j = bsr p m b) ∧ Row wr base g n c f ∧ w.grownBy wr (some g)) (fun vi vj _ => (intOf vj).toNat - (intOf vi).toNat)
  case atStart => exact ⟨m, b, Nat.le_refl _, by omega, Nat.le_refl _, rfl, rfl, Lib.hid rfl, h, World.grownBy.refl w _⟩
  case round =>
    obtain ⟨wo, rfl⟩ : ∃ wo : World, wo = wr := ⟨_, rfl⟩
    obtain ⟨i, j, hmi, hij, hjb, rfl, rfl, HB, hrow, hgr⟩ := hrel
    by_cases hlt : i < j
    · have HBW := Lib.hid (grown_base hgr hbg hbw)
      obtain ⟨q, hq⟩ : ∃ q, q = (i + j) / 2 := ⟨_, rfl⟩
      have HQ := Lib.hid hq
      have hq1 : q < n := by omega
      have i1 : (i : Int) < (j : Int) := by omega
      have i2 : ((i : Int) + (j : Int)) / 2 = (q : Int) := by omega
      have i3 : (q : Int) < (n : Int) := by omega
      have i4 : (a : Int) < (n : Int) := by omega
      obtain ⟨u, hu⟩ : ∃ u, u = f q := ⟨_, rfl⟩
      obtain ⟨v, hv'⟩ : ∃ v, v = f a := ⟨_, rfl⟩
      have c1 := hrow.cell hq1
      have c2 := hrow.cell (show a < n by omega)
      rw [← hu] at c1
      rw [← hv'] at c2
      have HR := Lib.hid (show 0 ≤ u ∧ u < n ∧ 0 ≤ v ∧ v < n by rw [hu, hv']; exact ⟨(HV.out _ hq1).1, (HV.out _ hq1).2, (HV.out _ (show a < n by omega)).1, (HV.out _ (show a < n by omega)).2⟩)
      have HK := Lib.hid (show cf u v < 0 ↔ key (f (q)) < key (f (a)) by rw [← hu, ← hv']; exact HF.out u v HR.out.1 HR.out.2.1 HR.out.2.2.1 HR.out.2.2.2)
      obtain ⟨z, hz⟩ : ∃ z, z = cf u v := ⟨_, rfl⟩
      have HZ := Lib.hid hz
      rw [← hz] at HK
      have hcl := Lib.hid (fun x : Later wo => (show Calls Try.prog F (#[.int .i64 u, .int .i64 v] ++ cb) x.val fun e w'' => e = .returned (.int .i64 z) ∧ Below x.val.heap.size x.val w'' by
        rw [HZ.out]
        exact HC.out u v HR.out.1 HR.out.2.1 HR.out.2.2.1 HR.out.2.2.2 _ (HBW.out.trans (x.below.mono (show base ≤ wo.heap.size from Nat.le_trans hbw hgr.size)))))
      have l1 := fun x : Later wo => lat_cell x c1
      have l2 := fun x : Later wo => lat_cell x c2
      clear hz hu hv'
      clear hq
      by_cases hlv : z < 0
      · have HE := Lib.hid (show bsr p (q + 1) j = bsr p m b by rw [bsr_yes hlt HQ.out (by rw [HP.out]; exact decide_eq_true (HK.out.1 hlv))]; exact HB)
        go_wp2_with fail
        refine wp_region_later (by kernel_rfl) (by kernel_rfl) ?_
        repeat (go_big_quiet_step (exact lat_call (hcl.out _)))
        refine wpQuiet_nil ?_
        intro w4 hb4
        have HROW4 := Lib.hid (hrow.bs hb4)
        have HGR4 := Lib.hid (grown_below hgr hb4)
        clear l1 l2 c1 c2 hb4 hrow hgr
        go_wp2
        go_roundw
        case rel => exact ⟨q + 1, j, by have := HQ.out; omega, by have := HQ.out; omega, hjb, by go_num, rfl, HE.out, HROW4.out, HGR4.out⟩
        case measure => (have := HQ.out; simp [intOf]; try omega)
      · have HE := Lib.hid (show bsr p i q = bsr p m b by rw [bsr_no hlt HQ.out (by rw [HP.out]; exact decide_eq_false (fun h => hlv (HK.out.2 h)))]; exact HB)
        go_wp2_with fail
        refine wp_region_later (by kernel_rfl) (by kernel_rfl) ?_
        repeat (go_big_quiet_step (exact lat_call (hcl.out _)))
        refine wpQuiet_nil ?_
        intro w4 hb4
        have HROW4 := Lib.hid (hrow.bs hb4)
        have HGR4 := Lib.hid (grown_below hgr hb4)
        clear l1 l2 c1 c2 hb4 hrow hgr
        go_wp2
        go_roundw
        case rel => exact ⟨i, q, hmi, by have := HQ.out; omega, by have := HQ.out; omega, rfl, rfl, HE.out, HROW4.out, HGR4.out⟩
        case measure => (have := HQ.out; simp [intOf]; try omega)
    · have HE := Lib.hid (show bsr p m b = i by rw [← HB]; exact bsr_end hlt)
      rw [HE.out]
      have i1 : ¬ (i : Int) < (j : Int) := by omega
      go_wp2
      go_loopw [13] (fun vk wr => ∃ t : Nat, t ≤ i - 1 - a ∧ vk = .int .i64 ((a + t : Nat) : Int) ∧ Row wr base g n c (mvUp a t f) ∧ w.grownBy wr (some g)) (fun vk _ => i - (intOf vk).toNat)
      case atStart => exact ⟨0, by omega, by first | rfl | go_num, hrow, hgr⟩
      case round =>
        obtain ⟨wq, rfl⟩ : ∃ wq : World, wq = wr := ⟨_, rfl⟩
        obtain ⟨t, ht, rfl, hrow2, hgr2⟩ := hrel
        obtain ⟨k, hk⟩ : ∃ k, k = a + t := ⟨_, rfl⟩
        rw [← hk]
        by_cases hlt2 : k < i - 1
        · obtain ⟨G, hG⟩ : ∃ G, G = mvUp a t f := ⟨_, rfl⟩
          rw [← hG] at hrow2
          obtain ⟨k1, hk1⟩ : ∃ k1, k1 = k + 1 := ⟨_, rfl⟩
          have HS := Lib.hid (show mvUp a (t + 1) f = fsw G k k1 by rw [hk1, hk, hG]; rfl)
          have d1 := hrow2.cell (show k < n by omega)
          have d2 := hrow2.cell (show k1 < n by omega)
          have g1 := hrow2.froz k
          have g2 := hrow2.froz k1
          obtain ⟨u, hu⟩ : ∃ u, u = G k := ⟨_, rfl⟩
          obtain ⟨v, hv'⟩ : ∃ v, v = G k1 := ⟨_, rfl⟩
          rw [← hu] at d1
          rw [← hv'] at d2
          have d3 := hrow2.two (p := k) hv' (show k1 < n by omega)
          have HROW := Lib.hid hrow2
          have HU := Lib.hid hu
          have HV2 := Lib.hid hv'
          have HKK := Lib.hid hk
          have j1 : (k : Int) < (i : Int) - 1 := by omega
          have j2 : (k : Int) + 1 = (k1 : Int) := by omega
          have j3 : (k : Int) < (n : Int) := by omega
          have j4 : (k1 : Int) < (n : Int) := by omega
          clear hG hk hk1 hu hv' hrow2
          go_wp2_with fail
          go_region
          go_wp2
          go_roundw
          case rel =>
            refine ⟨t + 1, by have := HKK.out; omega, by have := HKK.out; first | rfl | go_num | (congr 1; omega), ?_, ?_⟩
            · rw [HS.out, HU.out, HV2.out]
              exact HROW.out.sw'
            · exact grown_drew (grown_trans hgr2 (HROW.out.grown k k1 _ _))
          case measure => (simp [intOf]; try omega)
        · have ht2 : t = i - 1 - a := by omega
          have j1 : ¬ (k : Int) < (i : Int) - 1 := by omega
          have HT := Lib.hid (show mvUp a (i - 1 - a) f = mvUp a t f by rw [ht2])
          clear ht2 hk
          go_wp2
          (try simp only [Exit.inBlock, Exit.then]); refine bodyPost_ret (results_none rfl _ _ _) rfl ?_
          exact ⟨rfl, by rw [HE.out, HT.out]; exact hrow2, hgr2⟩
set_option maxRecDepth 20000 in
set_option maxHeartbeats 8000000 in
theorem symRight_any (base g n c a m b : Nat) (F : FuncId) (cb : Array Value) (cf : Int → Int → Int) (key : Int → Int) (f : Nat → Int) (w : World) (eg : ∀ args w, (callFunc F args).run Try.prog w = .ok (.enter F args) w)
    (hcmp : CmpOk F cb cf base n w) (hcf : ∀ x y : Int, 0 ≤ x → x < n → 0 ≤ y → y < n → (cf x y < 0 ↔ key x < key y)) (h : Row w base g n c f) (hv : Vals f n) (ham : a < m) (hna : ¬ m - a = 1) (hmb : b - m = 1) (hb : b ≤ n) (hn : n ≤ 1048576) :
    Calls Try.prog 146 #[.slice (some ⟨g, 0, none⟩) n c, .int .i64 a, .int .i64 m, .int .i64 b, .func (.func F) #[] cb] w fun e w' => e = .returned (.tuple #[]) ∧ Row w' base g n c (mvDn m (m - bsr (fun h => !decide (key (f m) < key (f h))) a m) f) ∧ w.grownBy w' (some g) := by
  have HC := Lib.hid hcmp
  have HF := Lib.hid hcf
  have HV := Lib.hid hv
  obtain ⟨hbg, hgw⟩ := h.base
  have hbw : base ≤ w.heap.size := by omega
  obtain ⟨p, hp⟩ : ∃ p, p = fun h => !decide (key (f m) < key (f h)) := ⟨_, rfl⟩
  have HP := Lib.hid hp
  rw [← hp]
  have e1 : (((m : Int) - (a : Int)) == 1) = false := beq_f (by omega)
  have e2 : (((b : Int) - (m : Int)) == 1) = true := beq_t (by omega)
  have hmb2 : m < b := by omega
  clear hcmp hcf hv hp hna hmb
  go_enter Try.func146, Try.ntmps146
  go_wp2
  go_loopw [14, 15] (fun vi vj wr => ∃ (i j : Nat), a ≤ i ∧ i ≤ j ∧ j ≤ m ∧ vi = .int .i64 i ∧ vj = .int .i64 j ∧ Hid (bsr p i j = bsr p a m) ∧ Row wr base g n c f ∧ w.grownBy wr (some g)) (fun vi vj _ => (intOf vj).toNat - (intOf vi).toNat)
  case atStart => exact ⟨a, m, Nat.le_refl _, by omega, Nat.le_refl _, rfl, rfl, Lib.hid rfl, h, World.grownBy.refl w _⟩
  case round =>
    obtain ⟨wo, rfl⟩ : ∃ wo : World, wo = wr := ⟨_, rfl⟩
    obtain ⟨i, j, hmi, hij, hjb, rfl, rfl, HB, hrow, hgr⟩ := hrel
    by_cases hlt : i < j
    · have HBW := Lib.hid (grown_base hgr hbg hbw)
      obtain ⟨q, hq⟩ : ∃ q, q = (i + j) / 2 := ⟨_, rfl⟩
      have HQ := Lib.hid hq
      have hq1 : q < n := by omega
      have i1 : (i : Int) < (j : Int) := by omega
      have i2 : ((i : Int) + (j : Int)) / 2 = (q : Int) := by omega
      have i3 : (q : Int) < (n : Int) := by omega
      have i4 : (m : Int) < (n : Int) := by omega
      obtain ⟨u, hu⟩ : ∃ u, u = f m := ⟨_, rfl⟩
      obtain ⟨v, hv'⟩ : ∃ v, v = f q := ⟨_, rfl⟩
      have c1 := hrow.cell (show m < n by omega)
      have c2 := hrow.cell hq1
      rw [← hu] at c1
      rw [← hv'] at c2
      have HR := Lib.hid (show 0 ≤ u ∧ u < n ∧ 0 ≤ v ∧ v < n by rw [hu, hv']; exact ⟨(HV.out _ (show m < n by omega)).1, (HV.out _ (show m < n by omega)).2, (HV.out _ hq1).1, (HV.out _ hq1).2⟩)
      have HK := Lib.hid (show cf u v < 0 ↔ key (f (m)) < key (f (q)) by rw [← hu, ← hv']; exact HF.out u v HR.out.1 HR.out.2.1 HR.out.2.2.1 HR.out.2.2.2)
      obtain ⟨z, hz⟩ : ∃ z, z = cf u v := ⟨_, rfl⟩
      have HZ := Lib.hid hz
      rw [← hz] at HK
      have hcl := Lib.hid (fun x : Later wo => (show Calls Try.prog F (#[.int .i64 u, .int .i64 v] ++ cb) x.val fun e w'' => e = .returned (.int .i64 z) ∧ Below x.val.heap.size x.val w'' by
        rw [HZ.out]
        exact HC.out u v HR.out.1 HR.out.2.1 HR.out.2.2.1 HR.out.2.2.2 _ (HBW.out.trans (x.below.mono (show base ≤ wo.heap.size from Nat.le_trans hbw hgr.size)))))
      have l1 := fun x : Later wo => lat_cell x c1
      have l2 := fun x : Later wo => lat_cell x c2
      clear hz hu hv'
      clear hq
      by_cases hlv : z < 0
      · have HE := Lib.hid (show bsr p i q = bsr p a m by rw [bsr_no hlt HQ.out (by rw [HP.out]; simp only [Bool.not_eq_false', decide_eq_true_eq]; exact HK.out.1 hlv)]; exact HB)
        go_wp2_with fail
        refine wp_region_later (by kernel_rfl) (by kernel_rfl) ?_
        repeat (go_big_quiet_step (exact lat_call (hcl.out _)))
        refine wpQuiet_nil ?_
        intro w4 hb4
        have HROW4 := Lib.hid (hrow.bs hb4)
        have HGR4 := Lib.hid (grown_below hgr hb4)
        clear l1 l2 c1 c2 hb4 hrow hgr
        go_wp2
        go_roundw
        case rel => exact ⟨i, q, hmi, by have := HQ.out; omega, by have := HQ.out; omega, rfl, rfl, HE.out, HROW4.out, HGR4.out⟩
        case measure => (have := HQ.out; simp [intOf]; try omega)
      · have HE := Lib.hid (show bsr p (q + 1) j = bsr p a m by rw [bsr_yes hlt HQ.out (by rw [HP.out]; simp only [Bool.not_eq_true', decide_eq_false_iff_not]; exact fun h => hlv (HK.out.2 h))]; exact HB)
        have e4 : (!decide (z < 0)) = true := by simp; omega
        go_wp2_with fail
        refine wp_region_later (by kernel_rfl) (by kernel_rfl) ?_
        repeat (go_big_quiet_step (exact lat_call (hcl.out _)))
        refine wpQuiet_nil ?_
        intro w4 hb4
        have HROW4 := Lib.hid (hrow.bs hb4)
        have HGR4 := Lib.hid (grown_below hgr hb4)
        clear l1 l2 c1 c2 hb4 hrow hgr
        go_wp2
        go_roundw
        case rel => exact ⟨q + 1, j, by have := HQ.out; omega, by have := HQ.out; omega, hjb, by go_num, rfl, HE.out, HROW4.out, HGR4.out⟩
        case measure => (have := HQ.out; simp [intOf]; try omega)
    · have HE := Lib.hid (show bsr p a m = i by rw [← HB]; exact bsr_end hlt)
      rw [HE.out]
      have i1 : ¬ (i : Int) < (j : Int) := by omega
      go_wp2
      go_loopw [17] (fun vk wr => ∃ t : Nat, t ≤ m - i ∧ vk = .int .i64 ((m - t : Nat) : Int) ∧ Row wr base g n c (mvDn m t f) ∧ w.grownBy wr (some g)) (fun vk _ => (intOf vk).toNat)
      case atStart => exact ⟨0, by omega, by first | rfl | go_num, hrow, hgr⟩
      case round =>
        obtain ⟨wq, rfl⟩ : ∃ wq : World, wq = wr := ⟨_, rfl⟩
        obtain ⟨t, ht, rfl, hrow2, hgr2⟩ := hrel
        obtain ⟨k, hk⟩ : ∃ k, k = m - t := ⟨_, rfl⟩
        rw [← hk]
        by_cases hlt2 : i < k
        · obtain ⟨G, hG⟩ : ∃ G, G = mvDn m t f := ⟨_, rfl⟩
          rw [← hG] at hrow2
          obtain ⟨k1, hk1⟩ : ∃ k1, k1 = k - 1 := ⟨_, rfl⟩
          have HS := Lib.hid (show mvDn m (t + 1) f = fsw G k k1 by rw [hk1, hk, hG]; rfl)
          have d1 := hrow2.cell (show k < n by omega)
          have d2 := hrow2.cell (show k1 < n by omega)
          have g1 := hrow2.froz k
          have g2 := hrow2.froz k1
          obtain ⟨u, hu⟩ : ∃ u, u = G k := ⟨_, rfl⟩
          obtain ⟨v, hv'⟩ : ∃ v, v = G k1 := ⟨_, rfl⟩
          rw [← hu] at d1
          rw [← hv'] at d2
          have d3 := hrow2.two (p := k) hv' (show k1 < n by omega)
          have HROW := Lib.hid hrow2
          have HU := Lib.hid hu
          have HV2 := Lib.hid hv'
          have HKK := Lib.hid (show k = m - t ∧ k1 = k - 1 from ⟨hk, hk1⟩)
          have j1 : (i : Int) < (k : Int) := by omega
          have j2 : (k : Int) - 1 = (k1 : Int) := by omega
          have j3 : (k : Int) < (n : Int) := by omega
          have j4 : (k1 : Int) < (n : Int) := by omega
          clear hG hk hk1 hu hv' hrow2
          go_wp2_with fail
          go_region
          go_wp2
          go_roundw
          case rel =>
            refine ⟨t + 1, by have := HKK.out; omega, by have := HKK.out; first | rfl | go_num | (congr 1; omega), ?_, ?_⟩
            · rw [HS.out, HU.out, HV2.out]
              exact HROW.out.sw'
            · exact grown_drew (grown_trans hgr2 (HROW.out.grown k k1 _ _))
          case measure => (have := HKK.out; simp [intOf]; try omega)
        · have ht2 : t = m - i := by omega
          have j1 : ¬ (i : Int) < (k : Int) := by omega
          have HT := Lib.hid (show mvDn m (m - i) f = mvDn m t f by rw [ht2])
          clear ht2 hk
          go_wp2
          (try simp only [Exit.inBlock, Exit.then]); refine bodyPost_ret (results_none rfl _ _ _) rfl ?_
          exact ⟨rfl, by rw [HE.out, HT.out]; exact hrow2, hgr2⟩
end Go.Proofs.Yteeaeomkpecflaa
