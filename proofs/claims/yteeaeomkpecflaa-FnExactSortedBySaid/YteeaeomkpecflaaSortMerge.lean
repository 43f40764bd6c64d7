/- slices.SortStableFunc over []int64: the recursive merge, the whole sort. -/
import Derived.Test.YteeaeomkpecflaaSortSym
namespace Go.Proofs.Yteeaeomkpecflaa
open Go.RowKit

theorem sym_main {key : Int → Int} {t a m b : Nat} {f : Nat → Int} (c1 : ¬ m - a = 1) (c2 : ¬ b - m = 1) {mid s en : Nat} (hm : mid = (a + b) / 2) (hs : s = symT key f a m b) (he : en = mid + m - s) :
    sym key (t + 1) a m b f = if mid < en ∧ en < b then sym key t mid en b (if a < s ∧ s < mid then sym key t a s mid (if s < m ∧ m < en then rot m (m - s) (en - m) f else f) else (if s < m ∧ m < en then rot m (m - s) (en - m) f else f))
      else (if a < s ∧ s < mid then sym key t a s mid (if s < m ∧ m < en then rot m (m - s) (en - m) f else f) else (if s < m ∧ m < en then rot m (m - s) (en - m) f else f)) := by
  subst hm hs he
  simp only [sym]
  rw [if_neg c1, if_neg c2]
theorem symP_yes {key : Int → Int} {f : Nat → Int} {N c x : Nat} (hx : x = N - 1 - c) (h : ¬ key (f x) < key (f c)) : symP key f N c = true := by
  subst hx
  unfold symP
  simpa using h
theorem symP_no {key : Int → Int} {f : Nat → Int} {N c x : Nat} (hx : x = N - 1 - c) (h : key (f x) < key (f c)) : symP key f N c = false := by
  subst hx
  unfold symP
  simpa using h

set_option maxRecDepth 20000 in
set_option maxHeartbeats 40000000 in
theorem symMerge_any (base g n c : Nat) (F : FuncId) (cb : Array Value) (cf : Int → Int → Int) (key : Int → Int) (eg : ∀ args w, (callFunc F args).run Try.prog w = .ok (.enter F args) w)
    (hcf : ∀ x y : Int, 0 ≤ x → x < n → 0 ≤ y → y < n → (cf x y < 0 ↔ key x < key y)) (hn : n ≤ 1048576) : ∀ (t a m b : Nat) (za zm zb : Int) (f : Nat → Int) (w : World), za = (a : Int) → zm = (m : Int) → zb = (b : Int) → CmpOk F cb cf base n w → Row w base g n c f → Vals f n → a < m → m < b → b ≤ n → b - a ≤ t →
    Calls Try.prog 146 #[.slice (some ⟨g, 0, none⟩) n c, .int .i64 za, .int .i64 zm, .int .i64 zb, .func (.func F) #[] cb] w fun e w' => e = .returned (.tuple #[]) ∧ Row w' base g n c (sym key t a m b f) ∧ w.grownBy w' (some g) := by
  intro t
  induction t with
  | zero => intro a m b za zm zb f w _ _ _ _ _ _ h1 h2 _ h3; omega
  | succ t ih =>
    intro a m b za zm zb f w e1 e2 e3 hcmp h hv ham hmb hb hbt
    subst e1 e2 e3
    by_cases c1 : m - a = 1
    · have := symLeft_any base g n c a m b F cb cf key f w eg hcmp hcf h hv c1 hmb hb hn
      simp only [sym]
      rw [if_pos c1]
      exact this
    · by_cases c2 : b - m = 1
      · have := symRight_any base g n c a m b F cb cf key f w eg hcmp hcf h hv ham c1 c2 hb hn
        simp only [sym]
        rw [if_neg c1, if_pos c2]
        exact this
      · have HIH := Lib.hid ih
        have HC := Lib.hid hcmp
        have HF := Lib.hid hcf
        have HV := Lib.hid hv
        obtain ⟨hbg, hgw⟩ := h.base
        have hbw : base ≤ w.heap.size := by omega
        obtain ⟨mid, hmid⟩ : ∃ mid, mid = (a + b) / 2 := ⟨_, rfl⟩
        obtain ⟨N, hN⟩ : ∃ N, N = mid + m := ⟨_, rfl⟩
        obtain ⟨N1, hN1⟩ : ∃ N1, N1 = N - 1 := ⟨_, rfl⟩
        have HMID := Lib.hid hmid
        have HN := Lib.hid hN
        have HN1 := Lib.hid hN1
        have HC12 := Lib.hid (And.intro c1 c2)
        have HSO := Lib.hid (symS_ok ham hmb)
        have hba : b - a ≤ t + 1 := hbt
        have q1 : (((m : Int) - (a : Int)) == 1) = false := beq_f (by omega)
        have q2 : (((b : Int) - (m : Int)) == 1) = false := beq_f (by omega)
        have q3 : ((a : Int) + (b : Int)) / 2 = (mid : Int) := by omega
        have q4 : (mid : Int) + (m : Int) = (N : Int) := by omega
        have q5 : (N : Int) - 1 = (N1 : Int) := by omega
        have q6 : N ≤ 4194304 := by omega
        clear ih hcmp hcf hv c1 c2 hbt
        by_cases hmm : mid < m
        · have HSS := Lib.hid (show symS a m b = (N - b, mid) by unfold symS; rw [← HMID.out, if_pos hmm, HN.out])
          obtain ⟨s0, hs0⟩ : ∃ s0, s0 = N - b := ⟨_, rfl⟩
          obtain ⟨r0, hr0⟩ : ∃ r0, r0 = mid := ⟨_, rfl⟩
          have q7 : (mid : Int) < (m : Int) := by omega
          have q8 : (N : Int) - (b : Int) = (s0 : Int) := by omega
          have HST := Lib.hid (show (s0 : Int) = (N : Int) - (b : Int) ∧ (r0 : Int) = (mid : Int) by constructor <;> omega)
          rw [← hs0, ← hr0] at HSS
          have HSO2 := HSO.out
          rw [HSS.out, ← HMID.out, ← HN.out] at HSO2
          dsimp only at HSO2
          have HSX := Lib.hid HSO2
          have HST2 := Lib.hid (show symT key f a m b = bsr (symP key f N) s0 r0 by unfold symT; rw [HSS.out, ← HMID.out, ← HN.out])
          have hr0n : r0 ≤ n := by omega
          clear HSO2 hs0 hr0 hmm hmid hN hN1
          go_enter Try.func146, Try.ntmps146
          go_wp2
          go_loopw [20, 21] (fun vi vj wr => ∃ (i j : Nat), s0 ≤ i ∧ i ≤ j ∧ j ≤ r0 ∧ vi = .int .i64 i ∧ vj = .int .i64 j ∧ Hid (bsr (symP key f N) i j = symT key f a m b) ∧ Row wr base g n c f ∧ w.grownBy wr (some g)) (fun vi vj _ => (intOf vj).toNat - (intOf vi).toNat)
          case atStart => exact ⟨s0, r0, Nat.le_refl _, HSX.out.2.1, Nat.le_refl _, by first | rfl | rw [HST.out.1], by first | rfl | rw [HST.out.2], HST2.out.symm, h, World.grownBy.refl w _⟩
          case round =>
            obtain ⟨wo, rfl⟩ : ∃ wo : World, wo = wr := ⟨_, rfl⟩
            obtain ⟨i, j, hmi, hij, hjb, rfl, rfl, HB, hrow, hgr⟩ := hrel
            by_cases hlt : i < j
            · have HBW := Lib.hid (grown_base hgr hbg hbw)
              obtain ⟨q, hq⟩ : ∃ q, q = (i + j) / 2 := ⟨_, rfl⟩
              have HQ := Lib.hid hq
              have hXX := HSX.out
              obtain ⟨x, hx⟩ : ∃ x, x = N - 1 - q := ⟨_, rfl⟩
              have HX := Lib.hid hx
              have hq1 : q < n := by omega
              have hx1 : x < n := by omega
              have i1 : (i : Int) < (j : Int) := by omega
              have i2 : ((i : Int) + (j : Int)) / 2 = (q : Int) := by omega
              have i3 : (q : Int) < (n : Int) := by omega
              have i4 : (x : Int) < (n : Int) := by omega
              have i5 : IntKind.i64.wrap ((N1 : Int) - (q : Int)) = (x : Int) := by have := HN1.out; rw [IntWalk.i64_in _ (by omega)]; omega
              have i6 : (N1 : Int) - (q : Int) = (x : Int) := by have := HN1.out; omega
              obtain ⟨u, hu⟩ : ∃ u, u = f x := ⟨_, rfl⟩
              obtain ⟨v, hv'⟩ : ∃ v, v = f q := ⟨_, rfl⟩
              have d1 := hrow.cell hx1
              have d2 := hrow.cell hq1
              rw [← hu] at d1
              rw [← hv'] at d2
              have HR := Lib.hid (show 0 ≤ u ∧ u < n ∧ 0 ≤ v ∧ v < n by rw [hu, hv']; exact ⟨(HV.out _ hx1).1, (HV.out _ hx1).2, (HV.out _ hq1).1, (HV.out _ hq1).2⟩)
              have HK := Lib.hid (show cf u v < 0 ↔ key (f x) < key (f q) by rw [← hu, ← hv']; exact HF.out u v HR.out.1 HR.out.2.1 HR.out.2.2.1 HR.out.2.2.2)
              obtain ⟨z, hz⟩ : ∃ z, z = cf u v := ⟨_, rfl⟩
              have HZ := Lib.hid hz
              rw [← hz] at HK
              have hcl := Lib.hid (fun y : Later wo => (show Calls Try.prog F (#[.int .i64 u, .int .i64 v] ++ cb) y.val fun e w'' => e = .returned (.int .i64 z) ∧ Below y.val.heap.size y.val w'' by
                rw [HZ.out]
                exact HC.out u v HR.out.1 HR.out.2.1 HR.out.2.2.1 HR.out.2.2.2 _ (HBW.out.trans (y.below.mono (show base ≤ wo.heap.size from Nat.le_trans hbw hgr.size)))))
              have l1 := fun x : Later wo => lat_cell x d1
              have l2 := fun x : Later wo => lat_cell x d2
              clear hz hu hv' hq hx hXX
              by_cases hlv : z < 0
              · have HE := Lib.hid (show bsr (symP key f N) i q = symT key f a m b by rw [bsr_no hlt HQ.out (symP_no HX.out (HK.out.1 hlv))]; exact HB)
                go_wp2_with fail
                refine wp_region_later (by kernel_rfl) (by kernel_rfl) ?_
                repeat (go_big_quiet_step (exact lat_call (hcl.out _)))
                refine wpQuiet_nil ?_
                intro w4 hb4
                have HROW4 := Lib.hid (hrow.bs hb4)
                have HGR4 := Lib.hid (grown_below hgr hb4)
                clear l1 l2 d1 d2 hb4 hrow hgr i5 i6
                go_wp2
                go_roundw
                case rel => exact ⟨i, q, hmi, by have := HQ.out; omega, by have := HQ.out; omega, rfl, rfl, HE.out, HROW4.out, HGR4.out⟩
                case measure => (have := HQ.out; simp [intOf]; try omega)
              · have HE := Lib.hid (show bsr (symP key f N) (q + 1) j = symT key f a m b by rw [bsr_yes hlt HQ.out (symP_yes HX.out (fun h => hlv (HK.out.2 h)))]; exact HB)
                have e4 : (!decide (z < 0)) = true := by simp; omega
                go_wp2_with fail
                refine wp_region_later (by kernel_rfl) (by kernel_rfl) ?_
                repeat (go_big_quiet_step (exact lat_call (hcl.out _)))
                refine wpQuiet_nil ?_
                intro w4 hb4
                have HROW4 := Lib.hid (hrow.bs hb4)
                have HGR4 := Lib.hid (grown_below hgr hb4)
                clear l1 l2 d1 d2 hb4 hrow hgr i5 i6
                go_wp2
                go_roundw
                case rel => exact ⟨q + 1, j, by have := HQ.out; omega, by have := HQ.out; omega, hjb, by go_num, rfl, HE.out, HROW4.out, HGR4.out⟩
                case measure => (have := HQ.out; simp [intOf]; try omega)
            · have HE := Lib.hid (show i = symT key f a m b by rw [← HB]; exact (bsr_end hlt).symm)
              have hXX := HSX.out
              obtain ⟨en, hen⟩ : ∃ en, en = mid + m - i := ⟨_, rfl⟩
              have HEN := Lib.hid (show en = mid + m - i from hen)
              have HFIN := Lib.hid (sym_main (t := t) HC12.out.1 HC12.out.2 HMID.out HE.out HEN.out)
              have HBW := Lib.hid (grown_base hgr hbg hbw)
              have HCW := Lib.hid (HC.out.later HBW.out)
              have i1 : ¬ (i : Int) < (j : Int) := by omega
              have i2 : (N : Int) - (i : Int) = (en : Int) := by have := HN.out; omega
              have HLE := Lib.hid (show i ≤ m ∧ i ≤ mid ∧ mid - a ≤ t ∧ b - mid ≤ t ∧ mid ≤ n ∧ en ≤ b ∧ a ≤ i ∧ m ≤ en ∧ mid ≤ en by have := HMID.out; have := HN.out; omega)
              have hbg2 : base ≤ wo.heap.size := Nat.le_trans hbw hgr.size
              clear hen hXX
              rcases (show (i < m ∧ m < en) ∨ (¬ i < m) ∨ (i < m ∧ ¬ m < en) by omega) with y0 | y0 | y0
              · have f0 : (i : Int) < (m : Int) := by omega
                have f1 : (m : Int) < (en : Int) := by omega
                rcases (show (a < i ∧ i < mid) ∨ (¬ a < i) ∨ (a < i ∧ ¬ i < mid) by omega) with y1 | y1 | y1
                · have f2 : (a : Int) < (i : Int) := by omega
                  have f3 : (i : Int) < (mid : Int) := by omega
                  rcases (show (mid < en ∧ en < b) ∨ (¬ mid < en) ∨ (mid < en ∧ ¬ en < b) by omega) with y2 | y2 | y2
                  · have f4 : (mid : Int) < (en : Int) := by omega
                    have f5 : (en : Int) < (b : Int) := by omega
                    have K0 := Lib.hid (show (i < m ∧ m < en) by omega)
                    have K1 := Lib.hid (show (a < i ∧ i < mid) by omega)
                    have K2 := Lib.hid (show (mid < en ∧ en < b) by omega)
                    clear y0 y1 y2
                    go_wp2_with fail
                    refine (rotate_z base g n c _ _ _ _ f _ i m en rfl rfl (by first | rfl | omega) hrow K0.out.1 K0.out.2 (by have := HLE.out; omega) hn).mono ?_; rintro e w1 ⟨rfl, hr1, hg1⟩
                    have HB1 := Lib.hid (grown_base hg1 hbg hbg2)
                    have HC1 := Lib.hid (HCW.out.later HB1.out)
                    have HV1 := Lib.hid (HV.out.perm (perm_rot (n := n) _ m (m - i) (en - m) f (Nat.le_refl _) (by omega) (by have := HLE.out; have := K0.out; omega) (by have := K0.out; omega) (by have := K0.out; omega)))
                    have hbg3 : base ≤ w1.heap.size := Nat.le_trans hbg2 hg1.size
                    go_wp2_with fail
                    refine (HIH.out a i mid _ _ _ _ _ rfl rfl rfl HC1.out hr1 HV1.out K1.out.1 K1.out.2 (by have := HLE.out; omega) (by have := HLE.out; omega)).mono ?_; rintro e w2 ⟨rfl, hr2, hg2⟩
                    have HB2 := Lib.hid (grown_base hg2 hbg hbg3)
                    have HC2 := Lib.hid (HC1.out.later HB2.out)
                    have HV2 := Lib.hid (HV1.out.perm (perm_sym (key := key) (n := n) t a i mid _ K1.out.1 K1.out.2 (by have := HLE.out; omega)))
                    go_wp2_with fail
                    refine (HIH.out mid en b _ _ _ _ _ rfl (by first | rfl | omega) rfl HC2.out hr2 HV2.out K2.out.1 K2.out.2 hb (by have := HLE.out; omega)).mono ?_; rintro e w3 ⟨rfl, hr3, hg3⟩
                    go_wp2
                    all_goals go_end0
                    all_goals exact ⟨rfl, by rw [HFIN.out, if_pos K0.out, if_pos K1.out, if_pos K2.out]; exact hr3, (grown_trans (grown_trans (grown_trans hgr hg1) hg2) hg3)⟩
                  · have f4 : ¬ (mid : Int) < (en : Int) := by omega
                    have K0 := Lib.hid (show (i < m ∧ m < en) by omega)
                    have K1 := Lib.hid (show (a < i ∧ i < mid) by omega)
                    have K2 := Lib.hid (show ¬ (mid < en ∧ en < b) by omega)
                    clear y0 y1 y2
                    go_wp2_with fail
                    refine (rotate_z base g n c _ _ _ _ f _ i m en rfl rfl (by first | rfl | omega) hrow K0.out.1 K0.out.2 (by have := HLE.out; omega) hn).mono ?_; rintro e w1 ⟨rfl, hr1, hg1⟩
                    have HB1 := Lib.hid (grown_base hg1 hbg hbg2)
                    have HC1 := Lib.hid (HCW.out.later HB1.out)
                    have HV1 := Lib.hid (HV.out.perm (perm_rot (n := n) _ m (m - i) (en - m) f (Nat.le_refl _) (by omega) (by have := HLE.out; have := K0.out; omega) (by have := K0.out; omega) (by have := K0.out; omega)))
                    have hbg3 : base ≤ w1.heap.size := Nat.le_trans hbg2 hg1.size
                    go_wp2_with fail
                    refine (HIH.out a i mid _ _ _ _ _ rfl rfl rfl HC1.out hr1 HV1.out K1.out.1 K1.out.2 (by have := HLE.out; omega) (by have := HLE.out; omega)).mono ?_; rintro e w2 ⟨rfl, hr2, hg2⟩
                    have HB2 := Lib.hid (grown_base hg2 hbg hbg3)
                    have HC2 := Lib.hid (HC1.out.later HB2.out)
                    have HV2 := Lib.hid (HV1.out.perm (perm_sym (key := key) (n := n) t a i mid _ K1.out.1 K1.out.2 (by have := HLE.out; omega)))
                    go_wp2
                    all_goals go_end0
                    all_goals exact ⟨rfl, by rw [HFIN.out, if_pos K0.out, if_pos K1.out, if_neg K2.out]; exact hr2, (grown_trans (grown_trans hgr hg1) hg2)⟩
                  · have f4 : (mid : Int) < (en : Int) := by omega
                    have f5 : ¬ (en : Int) < (b : Int) := by omega
                    have K0 := Lib.hid (show (i < m ∧ m < en) by omega)
                    have K1 := Lib.hid (show (a < i ∧ i < mid) by omega)
                    have K2 := Lib.hid (show ¬ (mid < en ∧ en < b) by omega)
                    clear y0 y1 y2
                    go_wp2_with fail
                    refine (rotate_z base g n c _ _ _ _ f _ i m en rfl rfl (by first | rfl | omega) hrow K0.out.1 K0.out.2 (by have := HLE.out; omega) hn).mono ?_; rintro e w1 ⟨rfl, hr1, hg1⟩
                    have HB1 := Lib.hid (grown_base hg1 hbg hbg2)
                    have HC1 := Lib.hid (HCW.out.later HB1.out)
                    have HV1 := Lib.hid (HV.out.perm (perm_rot (n := n) _ m (m - i) (en - m) f (Nat.le_refl _) (by omega) (by have := HLE.out; have := K0.out; omega) (by have := K0.out; omega) (by have := K0.out; omega)))
                    have hbg3 : base ≤ w1.heap.size := Nat.le_trans hbg2 hg1.size
                    go_wp2_with fail
                    refine (HIH.out a i mid _ _ _ _ _ rfl rfl rfl HC1.out hr1 HV1.out K1.out.1 K1.out.2 (by have := HLE.out; omega) (by have := HLE.out; omega)).mono ?_; rintro e w2 ⟨rfl, hr2, hg2⟩
                    have HB2 := Lib.hid (grown_base hg2 hbg hbg3)
                    have HC2 := Lib.hid (HC1.out.later HB2.out)
                    have HV2 := Lib.hid (HV1.out.perm (perm_sym (key := key) (n := n) t a i mid _ K1.out.1 K1.out.2 (by have := HLE.out; omega)))
                    go_wp2
                    all_goals go_end0
                    all_goals exact ⟨rfl, by rw [HFIN.out, if_pos K0.out, if_pos K1.out, if_neg K2.out]; exact hr2, (grown_trans (grown_trans hgr hg1) hg2)⟩
                · have f2 : ¬ (a : Int) < (i : Int) := by omega
                  rcases (show (mid < en ∧ en < b) ∨ (¬ mid < en) ∨ (mid < en ∧ ¬ en < b) by omega) with y2 | y2 | y2
                  · have f4 : (mid : Int) < (en : Int) := by omega
                    have f5 : (en : Int) < (b : Int) := by omega
                    exfalso; have := HLE.out; have := HEN.out; have := HN.out; omega
                  · have f4 : ¬ (mid : Int) < (en : Int) := by omega
                    have K0 := Lib.hid (show (i < m ∧ m < en) by omega)
                    have K1 := Lib.hid (show ¬ (a < i ∧ i < mid) by omega)
                    have K2 := Lib.hid (show ¬ (mid < en ∧ en < b) by omega)
                    clear y0 y1 y2
                    go_wp2_with fail
                    refine (rotate_z base g n c _ _ _ _ f _ i m en rfl rfl (by first | rfl | omega) hrow K0.out.1 K0.out.2 (by have := HLE.out; omega) hn).mono ?_; rintro e w1 ⟨rfl, hr1, hg1⟩
                    have HB1 := Lib.hid (grown_base hg1 hbg hbg2)
                    have HC1 := Lib.hid (HCW.out.later HB1.out)
                    have HV1 := Lib.hid (HV.out.perm (perm_rot (n := n) _ m (m - i) (en - m) f (Nat.le_refl _) (by omega) (by have := HLE.out; have := K0.out; omega) (by have := K0.out; omega) (by have := K0.out; omega)))
                    have hbg3 : base ≤ w1.heap.size := Nat.le_trans hbg2 hg1.size
                    go_wp2
                    all_goals go_end0
                    all_goals exact ⟨rfl, by rw [HFIN.out, if_pos K0.out, if_neg K1.out, if_neg K2.out]; exact hr1, (grown_trans hgr hg1)⟩
                  · have f4 : (mid : Int) < (en : Int) := by omega
                    have f5 : ¬ (en : Int) < (b : Int) := by omega
                    have K0 := Lib.hid (show (i < m ∧ m < en) by omega)
                    have K1 := Lib.hid (show ¬ (a < i ∧ i < mid) by omega)
                    have K2 := Lib.hid (show ¬ (mid < en ∧ en < b) by omega)
                    clear y0 y1 y2
                    go_wp2_with fail
                    refine (rotate_z base g n c _ _ _ _ f _ i m en rfl rfl (by first | rfl | omega) hrow K0.out.1 K0.out.2 (by have := HLE.out; omega) hn).mono ?_; rintro e w1 ⟨rfl, hr1, hg1⟩
                    have HB1 := Lib.hid (grown_base hg1 hbg hbg2)
                    have HC1 := Lib.hid (HCW.out.later HB1.out)
                    have HV1 := Lib.hid (HV.out.perm (perm_rot (n := n) _ m (m - i) (en - m) f (Nat.le_refl _) (by omega) (by have := HLE.out; have := K0.out; omega) (by have := K0.out; omega) (by have := K0.out; omega)))
                    have hbg3 : base ≤ w1.heap.size := Nat.le_trans hbg2 hg1.size
                    go_wp2
                    all_goals go_end0
                    all_goals exact ⟨rfl, by rw [HFIN.out, if_pos K0.out, if_neg K1.out, if_neg K2.out]; exact hr1, (grown_trans hgr hg1)⟩
                · have f2 : (a : Int) < (i : Int) := by omega
                  have f3 : ¬ (i : Int) < (mid : Int) := by omega
                  rcases (show (mid < en ∧ en < b) ∨ (¬ mid < en) ∨ (mid < en ∧ ¬ en < b) by omega) with y2 | y2 | y2
                  · have f4 : (mid : Int) < (en : Int) := by omega
                    have f5 : (en : Int) < (b : Int) := by omega
                    exfalso; have := HLE.out; have := HEN.out; have := HN.out; omega
                  · have f4 : ¬ (mid : Int) < (en : Int) := by omega
                    exfalso; have := HLE.out; have := HEN.out; have := HN.out; omega
                  · have f4 : (mid : Int) < (en : Int) := by omega
                    have f5 : ¬ (en : Int) < (b : Int) := by omega
                    exfalso; have := HLE.out; have := HEN.out; have := HN.out; omega
              · have f0 : ¬ (i : Int) < (m : Int) := by omega
                rcases (show (a < i ∧ i < mid) ∨ (¬ a < i) ∨ (a < i ∧ ¬ i < mid) by omega) with y1 | y1 | y1
                · have f2 : (a : Int) < (i : Int) := by omega
                  have f3 : (i : Int) < (mid : Int) := by omega
                  rcases (show (mid < en ∧ en < b) ∨ (¬ mid < en) ∨ (mid < en ∧ ¬ en < b) by omega) with y2 | y2 | y2
                  · have f4 : (mid : Int) < (en : Int) := by omega
                    have f5 : (en : Int) < (b : Int) := by omega
                    exfalso; have := HLE.out; have := HEN.out; have := HN.out; omega
                  · have f4 : ¬ (mid : Int) < (en : Int) := by omega
                    have K0 := Lib.hid (show ¬ (i < m ∧ m < en) by omega)
                    have K1 := Lib.hid (show (a < i ∧ i < mid) by omega)
                    have K2 := Lib.hid (show ¬ (mid < en ∧ en < b) by omega)
                    clear y0 y1 y2
                    go_wp2_with fail
                    refine (HIH.out a i mid _ _ _ _ _ rfl rfl rfl HCW.out hrow HV.out K1.out.1 K1.out.2 (by have := HLE.out; omega) (by have := HLE.out; omega)).mono ?_; rintro e w2 ⟨rfl, hr2, hg2⟩
                    have HB2 := Lib.hid (grown_base hg2 hbg hbg2)
                    have HC2 := Lib.hid (HCW.out.later HB2.out)
                    have HV2 := Lib.hid (HV.out.perm (perm_sym (key := key) (n := n) t a i mid _ K1.out.1 K1.out.2 (by have := HLE.out; omega)))
                    go_wp2
                    all_goals go_end0
                    all_goals exact ⟨rfl, by rw [HFIN.out, if_neg K0.out, if_pos K1.out, if_neg K2.out]; exact hr2, (grown_trans hgr hg2)⟩
                  · have f4 : (mid : Int) < (en : Int) := by omega
                    have f5 : ¬ (en : Int) < (b : Int) := by omega
                    exfalso; have := HLE.out; have := HEN.out; have := HN.out; omega
                · have f2 : ¬ (a : Int) < (i : Int) := by omega
                  rcases (show (mid < en ∧ en < b) ∨ (¬ mid < en) ∨ (mid < en ∧ ¬ en < b) by omega) with y2 | y2 | y2
                  · have f4 : (mid : Int) < (en : Int) := by omega
                    have f5 : (en : Int) < (b : Int) := by omega
                    exfalso; have := HLE.out; have := HEN.out; have := HN.out; omega
                  · have f4 : ¬ (mid : Int) < (en : Int) := by omega
                    have K0 := Lib.hid (show ¬ (i < m ∧ m < en) by omega)
                    have K1 := Lib.hid (show ¬ (a < i ∧ i < mid) by omega)
                    have K2 := Lib.hid (show ¬ (mid < en ∧ en < b) by omega)
                    clear y0 y1 y2
                    go_wp2
                    all_goals go_end0
                    all_goals exact ⟨rfl, by rw [HFIN.out, if_neg K0.out, if_neg K1.out, if_neg K2.out]; exact hrow, hgr⟩
                  · have f4 : (mid : Int) < (en : Int) := by omega
                    have f5 : ¬ (en : Int) < (b : Int) := by omega
                    exfalso; have := HLE.out; have := HEN.out; have := HN.out; omega
                · have f2 : (a : Int) < (i : Int) := by omega
                  have f3 : ¬ (i : Int) < (mid : Int) := by omega
                  rcases (show (mid < en ∧ en < b) ∨ (¬ mid < en) ∨ (mid < en ∧ ¬ en < b) by omega) with y2 | y2 | y2
                  · have f4 : (mid : Int) < (en : Int) := by omega
                    have f5 : (en : Int) < (b : Int) := by omega
                    exfalso; have := HLE.out; have := HEN.out; have := HN.out; omega
                  · have f4 : ¬ (mid : Int) < (en : Int) := by omega
                    have K0 := Lib.hid (show ¬ (i < m ∧ m < en) by omega)
                    have K1 := Lib.hid (show ¬ (a < i ∧ i < mid) by omega)
                    have K2 := Lib.hid (show ¬ (mid < en ∧ en < b) by omega)
                    clear y0 y1 y2
                    go_wp2
                    all_goals go_end0
                    all_goals exact ⟨rfl, by rw [HFIN.out, if_neg K0.out, if_neg K1.out, if_neg K2.out]; exact hrow, hgr⟩
                  · have f4 : (mid : Int) < (en : Int) := by omega
                    have f5 : ¬ (en : Int) < (b : Int) := by omega
                    exfalso; have := HLE.out; have := HEN.out; have := HN.out; omega
              · have f0 : (i : Int) < (m : Int) := by omega
                have f1 : ¬ (m : Int) < (en : Int) := by omega
                rcases (show (a < i ∧ i < mid) ∨ (¬ a < i) ∨ (a < i ∧ ¬ i < mid) by omega) with y1 | y1 | y1
                · have f2 : (a : Int) < (i : Int) := by omega
                  have f3 : (i : Int) < (mid : Int) := by omega
                  rcases (show (mid < en ∧ en < b) ∨ (¬ mid < en) ∨ (mid < en ∧ ¬ en < b) by omega) with y2 | y2 | y2
                  · have f4 : (mid : Int) < (en : Int) := by omega
                    have f5 : (en : Int) < (b : Int) := by omega
                    exfalso; have := HLE.out; have := HEN.out; have := HN.out; omega
                  · have f4 : ¬ (mid : Int) < (en : Int) := by omega
                    exfalso; have := HLE.out; have := HEN.out; have := HN.out; omega
                  · have f4 : (mid : Int) < (en : Int) := by omega
                    have f5 : ¬ (en : Int) < (b : Int) := by omega
                    exfalso; have := HLE.out; have := HEN.out; have := HN.out; omega
                · have f2 : ¬ (a : Int) < (i : Int) := by omega
                  rcases (show (mid < en ∧ en < b) ∨ (¬ mid < en) ∨ (mid < en ∧ ¬ en < b) by omega) with y2 | y2 | y2
                  · have f4 : (mid : Int) < (en : Int) := by omega
                    have f5 : (en : Int) < (b : Int) := by omega
                    exfalso; have := HLE.out; have := HEN.out; have := HN.out; omega
                  · have f4 : ¬ (mid : Int) < (en : Int) := by omega
                    have K0 := Lib.hid (show ¬ (i < m ∧ m < en) by omega)
                    have K1 := Lib.hid (show ¬ (a < i ∧ i < mid) by omega)
                    have K2 := Lib.hid (show ¬ (mid < en ∧ en < b) by omega)
                    clear y0 y1 y2
                    go_wp2
                    all_goals go_end0
                    all_goals exact ⟨rfl, by rw [HFIN.out, if_neg K0.out, if_neg K1.out, if_neg K2.out]; exact hrow, hgr⟩
                  · have f4 : (mid : Int) < (en : Int) := by omega
                    have f5 : ¬ (en : Int) < (b : Int) := by omega
                    have K0 := Lib.hid (show ¬ (i < m ∧ m < en) by omega)
                    have K1 := Lib.hid (show ¬ (a < i ∧ i < mid) by omega)
                    have K2 := Lib.hid (show ¬ (mid < en ∧ en < b) by omega)
                    clear y0 y1 y2
                    go_wp2
                    all_goals go_end0
                    all_goals exact ⟨rfl, by rw [HFIN.out, if_neg K0.out, if_neg K1.out, if_neg K2.out]; exact hrow, hgr⟩
                · have f2 : (a : Int) < (i : Int) := by omega
                  have f3 : ¬ (i : Int) < (mid : Int) := by omega
                  rcases (show (mid < en ∧ en < b) ∨ (¬ mid < en) ∨ (mid < en ∧ ¬ en < b) by omega) with y2 | y2 | y2
                  · have f4 : (mid : Int) < (en : Int) := by omega
                    have f5 : (en : Int) < (b : Int) := by omega
                    have K0 := Lib.hid (show ¬ (i < m ∧ m < en) by omega)
                    have K1 := Lib.hid (show ¬ (a < i ∧ i < mid) by omega)
                    have K2 := Lib.hid (show (mid < en ∧ en < b) by omega)
                    clear y0 y1 y2
                    go_wp2_with fail
                    refine (HIH.out mid en b _ _ _ _ _ rfl (by first | rfl | omega) rfl HCW.out hrow HV.out K2.out.1 K2.out.2 hb (by have := HLE.out; omega)).mono ?_; rintro e w3 ⟨rfl, hr3, hg3⟩
                    go_wp2
                    all_goals go_end0
                    all_goals exact ⟨rfl, by rw [HFIN.out, if_neg K0.out, if_neg K1.out, if_pos K2.out]; exact hr3, (grown_trans hgr hg3)⟩
                  · have f4 : ¬ (mid : Int) < (en : Int) := by omega
                    have K0 := Lib.hid (show ¬ (i < m ∧ m < en) by omega)
                    have K1 := Lib.hid (show ¬ (a < i ∧ i < mid) by omega)
                    have K2 := Lib.hid (show ¬ (mid < en ∧ en < b) by omega)
                    clear y0 y1 y2
                    go_wp2
                    all_goals go_end0
                    all_goals exact ⟨rfl, by rw [HFIN.out, if_neg K0.out, if_neg K1.out, if_neg K2.out]; exact hrow, hgr⟩
                  · have f4 : (mid : Int) < (en : Int) := by omega
                    have f5 : ¬ (en : Int) < (b : Int) := by omega
                    have K0 := Lib.hid (show ¬ (i < m ∧ m < en) by omega)
                    have K1 := Lib.hid (show ¬ (a < i ∧ i < mid) by omega)
                    have K2 := Lib.hid (show ¬ (mid < en ∧ en < b) by omega)
                    clear y0 y1 y2
                    go_wp2
                    all_goals go_end0
                    all_goals exact ⟨rfl, by rw [HFIN.out, if_neg K0.out, if_neg K1.out, if_neg K2.out]; exact hrow, hgr⟩
        · obtain ⟨s0, hs0⟩ : ∃ s0, s0 = a := ⟨_, rfl⟩
          obtain ⟨r0, hr0⟩ : ∃ r0, r0 = m := ⟨_, rfl⟩
          have HSS := Lib.hid (show symS a m b = (s0, r0) by rw [hs0, hr0]; unfold symS; rw [← HMID.out, if_neg hmm])
          have q7 : ¬ (mid : Int) < (m : Int) := by omega
          have HST := Lib.hid (show (s0 : Int) = (a : Int) ∧ (r0 : Int) = (m : Int) by constructor <;> omega)
          have HSO2 := HSO.out
          rw [HSS.out, ← HMID.out, ← HN.out] at HSO2
          dsimp only at HSO2
          have HSX := Lib.hid HSO2
          have HST2 := Lib.hid (show symT key f a m b = bsr (symP key f N) s0 r0 by unfold symT; rw [HSS.out, ← HMID.out, ← HN.out])
          have hr0n : r0 ≤ n := by omega
          clear HSO2 hs0 hr0 hmm hmid hN hN1
          go_enter Try.func146, Try.ntmps146
          go_wp2
          go_loopw [20, 21] (fun vi vj wr => ∃ (i j : Nat), s0 ≤ i ∧ i ≤ j ∧ j ≤ r0 ∧ vi = .int .i64 i ∧ vj = .int .i64 j ∧ Hid (bsr (symP key f N) i j = symT key f a m b) ∧ Row wr base g n c f ∧ w.grownBy wr (some g)) (fun vi vj _ => (intOf vj).toNat - (intOf vi).toNat)
          case atStart => exact ⟨s0, r0, Nat.le_refl _, HSX.out.2.1, Nat.le_refl _, by first | rfl | rw [HST.out.1], by first | rfl | rw [HST.out.2], HST2.out.symm, h, World.grownBy.refl w _⟩
          case round =>
            obtain ⟨wo, rfl⟩ : ∃ wo : World, wo = wr := ⟨_, rfl⟩
            obtain ⟨i, j, hmi, hij, hjb, rfl, rfl, HB, hrow, hgr⟩ := hrel
            by_cases hlt : i < j
            · have HBW := Lib.hid (grown_base hgr hbg hbw)
              obtain ⟨q, hq⟩ : ∃ q, q = (i + j) / 2 := ⟨_, rfl⟩
              have HQ := Lib.hid hq
              have hXX := HSX.out
              obtain ⟨x, hx⟩ : ∃ x, x = N - 1 - q := ⟨_, rfl⟩
              have HX := Lib.hid hx
              have hq1 : q < n := by omega
              have hx1 : x < n := by omega
              have i1 : (i : Int) < (j : Int) := by omega
              have i2 : ((i : Int) + (j : Int)) / 2 = (q : Int) := by omega
              have i3 : (q : Int) < (n : Int) := by omega
              have i4 : (x : Int) < (n : Int) := by omega
              have i5 : IntKind.i64.wrap ((N1 : Int) - (q : Int)) = (x : Int) := by have := HN1.out; rw [IntWalk.i64_in _ (by omega)]; omega
              have i6 : (N1 : Int) - (q : Int) = (x : Int) := by have := HN1.out; omega
              obtain ⟨u, hu⟩ : ∃ u, u = f x := ⟨_, rfl⟩
              obtain ⟨v, hv'⟩ : ∃ v, v = f q := ⟨_, rfl⟩
              have d1 := hrow.cell hx1
              have d2 := hrow.cell hq1
              rw [← hu] at d1
              rw [← hv'] at d2
              have HR := Lib.hid (show 0 ≤ u ∧ u < n ∧ 0 ≤ v ∧ v < n by rw [hu, hv']; exact ⟨(HV.out _ hx1).1, (HV.out _ hx1).2, (HV.out _ hq1).1, (HV.out _ hq1).2⟩)
              have HK := Lib.hid (show cf u v < 0 ↔ key (f x) < key (f q) by rw [← hu, ← hv']; exact HF.out u v HR.out.1 HR.out.2.1 HR.out.2.2.1 HR.out.2.2.2)
              obtain ⟨z, hz⟩ : ∃ z, z = cf u v := ⟨_, rfl⟩
              have HZ := Lib.hid hz
              rw [← hz] at HK
              have hcl := Lib.hid (fun y : Later wo => (show Calls Try.prog F (#[.int .i64 u, .int .i64 v] ++ cb) y.val fun e w'' => e = .returned (.int .i64 z) ∧ Below y.val.heap.size y.val w'' by
                rw [HZ.out]
                exact HC.out u v HR.out.1 HR.out.2.1 HR.out.2.2.1 HR.out.2.2.2 _ (HBW.out.trans (y.below.mono (show base ≤ wo.heap.size from Nat.le_trans hbw hgr.size)))))
              have l1 := fun x : Later wo => lat_cell x d1
              have l2 := fun x : Later wo => lat_cell x d2
              clear hz hu hv' hq hx hXX
              by_cases hlv : z < 0
              · have HE := Lib.hid (show bsr (symP key f N) i q = symT key f a m b by rw [bsr_no hlt HQ.out (symP_no HX.out (HK.out.1 hlv))]; exact HB)
                go_wp2_with fail
                refine wp_region_later (by kernel_rfl) (by kernel_rfl) ?_
                repeat (go_big_quiet_step (exact lat_call (hcl.out _)))
                refine wpQuiet_nil ?_
                intro w4 hb4
                have HROW4 := Lib.hid (hrow.bs hb4)
                have HGR4 := Lib.hid (grown_below hgr hb4)
                clear l1 l2 d1 d2 hb4 hrow hgr i5 i6
                go_wp2
                go_roundw
                case rel => exact ⟨i, q, hmi, by have := HQ.out; omega, by have := HQ.out; omega, rfl, rfl, HE.out, HROW4.out, HGR4.out⟩
                case measure => (have := HQ.out; simp [intOf]; try omega)
              · have HE := Lib.hid (show bsr (symP key f N) (q + 1) j = symT key f a m b by rw [bsr_yes hlt HQ.out (symP_yes HX.out (fun h => hlv (HK.out.2 h)))]; exact HB)
                have e4 : (!decide (z < 0)) = true := by simp; omega
                go_wp2_with fail
                refine wp_region_later (by kernel_rfl) (by kernel_rfl) ?_
                repeat (go_big_quiet_step (exact lat_call (hcl.out _)))
                refine wpQuiet_nil ?_
                intro w4 hb4
                have HROW4 := Lib.hid (hrow.bs hb4)
                have HGR4 := Lib.hid (grown_below hgr hb4)
                clear l1 l2 d1 d2 hb4 hrow hgr i5 i6
                go_wp2
                go_roundw
                case rel => exact ⟨q + 1, j, by have := HQ.out; omega, by have := HQ.out; omega, hjb, by go_num, rfl, HE.out, HROW4.out, HGR4.out⟩
                case measure => (have := HQ.out; simp [intOf]; try omega)
            · have HE := Lib.hid (show i = symT key f a m b by rw [← HB]; exact (bsr_end hlt).symm)
              have hXX := HSX.out
              obtain ⟨en, hen⟩ : ∃ en, en = mid + m - i := ⟨_, rfl⟩
              have HEN := Lib.hid (show en = mid + m - i from hen)
              have HFIN := Lib.hid (sym_main (t := t) HC12.out.1 HC12.out.2 HMID.out HE.out HEN.out)
              have HBW := Lib.hid (grown_base hgr hbg hbw)
              have HCW := Lib.hid (HC.out.later HBW.out)
              have i1 : ¬ (i : Int) < (j : Int) := by omega
              have i2 : (N : Int) - (i : Int) = (en : Int) := by have := HN.out; omega
              have HLE := Lib.hid (show i ≤ m ∧ i ≤ mid ∧ mid - a ≤ t ∧ b - mid ≤ t ∧ mid ≤ n ∧ en ≤ b ∧ a ≤ i ∧ m ≤ en ∧ mid ≤ en by have := HMID.out; have := HN.out; omega)
              have hbg2 : base ≤ wo.heap.size := Nat.le_trans hbw hgr.size
              clear hen hXX
              rcases (show (i < m ∧ m < en) ∨ (¬ i < m) ∨ (i < m ∧ ¬ m < en) by omega) with y0 | y0 | y0
              · have f0 : (i : Int) < (m : Int) := by omega
                have f1 : (m : Int) < (en : Int) := by omega
                rcases (show (a < i ∧ i < mid) ∨ (¬ a < i) ∨ (a < i ∧ ¬ i < mid) by omega) with y1 | y1 | y1
                · have f2 : (a : Int) < (i : Int) := by omega
                  have f3 : (i : Int) < (mid : Int) := by omega
                  rcases (show (mid < en ∧ en < b) ∨ (¬ mid < en) ∨ (mid < en ∧ ¬ en < b) by omega) with y2 | y2 | y2
                  · have f4 : (mid : Int) < (en : Int) := by omega
                    have f5 : (en : Int) < (b : Int) := by omega
                    have K0 := Lib.hid (show (i < m ∧ m < en) by omega)
                    have K1 := Lib.hid (show (a < i ∧ i < mid) by omega)
                    have K2 := Lib.hid (show (mid < en ∧ en < b) by omega)
                    clear y0 y1 y2
                    go_wp2_with fail
                    refine (rotate_z base g n c _ _ _ _ f _ i m en rfl rfl (by first | rfl | omega) hrow K0.out.1 K0.out.2 (by have := HLE.out; omega) hn).mono ?_; rintro e w1 ⟨rfl, hr1, hg1⟩
                    have HB1 := Lib.hid (grown_base hg1 hbg hbg2)
                    have HC1 := Lib.hid (HCW.out.later HB1.out)
                    have HV1 := Lib.hid (HV.out.perm (perm_rot (n := n) _ m (m - i) (en - m) f (Nat.le_refl _) (by omega) (by have := HLE.out; have := K0.out; omega) (by have := K0.out; omega) (by have := K0.out; omega)))
                    have hbg3 : base ≤ w1.heap.size := Nat.le_trans hbg2 hg1.size
                    go_wp2_with fail
                    refine (HIH.out a i mid _ _ _ _ _ rfl rfl rfl HC1.out hr1 HV1.out K1.out.1 K1.out.2 (by have := HLE.out; omega) (by have := HLE.out; omega)).mono ?_; rintro e w2 ⟨rfl, hr2, hg2⟩
                    have HB2 := Lib.hid (grown_base hg2 hbg hbg3)
                    have HC2 := Lib.hid (HC1.out.later HB2.out)
                    have HV2 := Lib.hid (HV1.out.perm (perm_sym (key := key) (n := n) t a i mid _ K1.out.1 K1.out.2 (by have := HLE.out; omega)))
                    go_wp2_with fail
                    refine (HIH.out mid en b _ _ _ _ _ rfl (by first | rfl | omega) rfl HC2.out hr2 HV2.out K2.out.1 K2.out.2 hb (by have := HLE.out; omega)).mono ?_; rintro e w3 ⟨rfl, hr3, hg3⟩
                    go_wp2
                    all_goals go_end0
                    all_goals exact ⟨rfl, by rw [HFIN.out, if_pos K0.out, if_pos K1.out, if_pos K2.out]; exact hr3, (grown_trans (grown_trans (grown_trans hgr hg1) hg2) hg3)⟩
                  · have f4 : ¬ (mid : Int) < (en : Int) := by omega
                    have K0 := Lib.hid (show (i < m ∧ m < en) by omega)
                    have K1 := Lib.hid (show (a < i ∧ i < mid) by omega)
                    have K2 := Lib.hid (show ¬ (mid < en ∧ en < b) by omega)
                    clear y0 y1 y2
                    go_wp2_with fail
                    refine (rotate_z base g n c _ _ _ _ f _ i m en rfl rfl (by first | rfl | omega) hrow K0.out.1 K0.out.2 (by have := HLE.out; omega) hn).mono ?_; rintro e w1 ⟨rfl, hr1, hg1⟩
                    have HB1 := Lib.hid (grown_base hg1 hbg hbg2)
                    have HC1 := Lib.hid (HCW.out.later HB1.out)
                    have HV1 := Lib.hid (HV.out.perm (perm_rot (n := n) _ m (m - i) (en - m) f (Nat.le_refl _) (by omega) (by have := HLE.out; have := K0.out; omega) (by have := K0.out; omega) (by have := K0.out; omega)))
                    have hbg3 : base ≤ w1.heap.size := Nat.le_trans hbg2 hg1.size
                    go_wp2_with fail
                    refine (HIH.out a i mid _ _ _ _ _ rfl rfl rfl HC1.out hr1 HV1.out K1.out.1 K1.out.2 (by have := HLE.out; omega) (by have := HLE.out; omega)).mono ?_; rintro e w2 ⟨rfl, hr2, hg2⟩
                    have HB2 := Lib.hid (grown_base hg2 hbg hbg3)
                    have HC2 := Lib.hid (HC1.out.later HB2.out)
                    have HV2 := Lib.hid (HV1.out.perm (perm_sym (key := key) (n := n) t a i mid _ K1.out.1 K1.out.2 (by have := HLE.out; omega)))
                    go_wp2
                    all_goals go_end0
                    all_goals exact ⟨rfl, by rw [HFIN.out, if_pos K0.out, if_pos K1.out, if_neg K2.out]; exact hr2, (grown_trans (grown_trans hgr hg1) hg2)⟩
                  · have f4 : (mid : Int) < (en : Int) := by omega
                    have f5 : ¬ (en : Int) < (b : Int) := by omega
                    have K0 := Lib.hid (show (i < m ∧ m < en) by omega)
                    have K1 := Lib.hid (show (a < i ∧ i < mid) by omega)
                    have K2 := Lib.hid (show ¬ (mid < en ∧ en < b) by omega)
                    clear y0 y1 y2
                    go_wp2_with fail
                    refine (rotate_z base g n c _ _ _ _ f _ i m en rfl rfl (by first | rfl | omega) hrow K0.out.1 K0.out.2 (by have := HLE.out; omega) hn).mono ?_; rintro e w1 ⟨rfl, hr1, hg1⟩
                    have HB1 := Lib.hid (grown_base hg1 hbg hbg2)
                    have HC1 := Lib.hid (HCW.out.later HB1.out)
                    have HV1 := Lib.hid (HV.out.perm (perm_rot (n := n) _ m (m - i) (en - m) f (Nat.le_refl _) (by omega) (by have := HLE.out; have := K0.out; omega) (by have := K0.out; omega) (by have := K0.out; omega)))
                    have hbg3 : base ≤ w1.heap.size := Nat.le_trans hbg2 hg1.size
                    go_wp2_with fail
                    refine (HIH.out a i mid _ _ _ _ _ rfl rfl rfl HC1.out hr1 HV1.out K1.out.1 K1.out.2 (by have := HLE.out; omega) (by have := HLE.out; omega)).mono ?_; rintro e w2 ⟨rfl, hr2, hg2⟩
                    have HB2 := Lib.hid (grown_base hg2 hbg hbg3)
                    have HC2 := Lib.hid (HC1.out.later HB2.out)
                    have HV2 := Lib.hid (HV1.out.perm (perm_sym (key := key) (n := n) t a i mid _ K1.out.1 K1.out.2 (by have := HLE.out; omega)))
                    go_wp2
                    all_goals go_end0
                    all_goals exact ⟨rfl, by rw [HFIN.out, if_pos K0.out, if_pos K1.out, if_neg K2.out]; exact hr2, (grown_trans (grown_trans hgr hg1) hg2)⟩
                · have f2 : ¬ (a : Int) < (i : Int) := by omega
                  rcases (show (mid < en ∧ en < b) ∨ (¬ mid < en) ∨ (mid < en ∧ ¬ en < b) by omega) with y2 | y2 | y2
                  · have f4 : (mid : Int) < (en : Int) := by omega
                    have f5 : (en : Int) < (b : Int) := by omega
                    have K0 := Lib.hid (show (i < m ∧ m < en) by omega)
                    have K1 := Lib.hid (show ¬ (a < i ∧ i < mid) by omega)
                    have K2 := Lib.hid (show (mid < en ∧ en < b) by omega)
                    clear y0 y1 y2
                    go_wp2_with fail
                    refine (rotate_z base g n c _ _ _ _ f _ i m en rfl rfl (by first | rfl | omega) hrow K0.out.1 K0.out.2 (by have := HLE.out; omega) hn).mono ?_; rintro e w1 ⟨rfl, hr1, hg1⟩
                    have HB1 := Lib.hid (grown_base hg1 hbg hbg2)
                    have HC1 := Lib.hid (HCW.out.later HB1.out)
                    have HV1 := Lib.hid (HV.out.perm (perm_rot (n := n) _ m (m - i) (en - m) f (Nat.le_refl _) (by omega) (by have := HLE.out; have := K0.out; omega) (by have := K0.out; omega) (by have := K0.out; omega)))
                    have hbg3 : base ≤ w1.heap.size := Nat.le_trans hbg2 hg1.size
                    go_wp2_with fail
                    refine (HIH.out mid en b _ _ _ _ _ rfl (by first | rfl | omega) rfl HC1.out hr1 HV1.out K2.out.1 K2.out.2 hb (by have := HLE.out; omega)).mono ?_; rintro e w3 ⟨rfl, hr3, hg3⟩
                    go_wp2
                    all_goals go_end0
                    all_goals exact ⟨rfl, by rw [HFIN.out, if_pos K0.out, if_neg K1.out, if_pos K2.out]; exact hr3, (grown_trans (grown_trans hgr hg1) hg3)⟩
                  · have f4 : ¬ (mid : Int) < (en : Int) := by omega
                    have K0 := Lib.hid (show (i < m ∧ m < en) by omega)
                    have K1 := Lib.hid (show ¬ (a < i ∧ i < mid) by omega)
                    have K2 := Lib.hid (show ¬ (mid < en ∧ en < b) by omega)
                    clear y0 y1 y2
                    go_wp2_with fail
                    refine (rotate_z base g n c _ _ _ _ f _ i m en rfl rfl (by first | rfl | omega) hrow K0.out.1 K0.out.2 (by have := HLE.out; omega) hn).mono ?_; rintro e w1 ⟨rfl, hr1, hg1⟩
                    have HB1 := Lib.hid (grown_base hg1 hbg hbg2)
                    have HC1 := Lib.hid (HCW.out.later HB1.out)
                    have HV1 := Lib.hid (HV.out.perm (perm_rot (n := n) _ m (m - i) (en - m) f (Nat.le_refl _) (by omega) (by have := HLE.out; have := K0.out; omega) (by have := K0.out; omega) (by have := K0.out; omega)))
                    have hbg3 : base ≤ w1.heap.size := Nat.le_trans hbg2 hg1.size
                    go_wp2
                    all_goals go_end0
                    all_goals exact ⟨rfl, by rw [HFIN.out, if_pos K0.out, if_neg K1.out, if_neg K2.out]; exact hr1, (grown_trans hgr hg1)⟩
                  · have f4 : (mid : Int) < (en : Int) := by omega
                    have f5 : ¬ (en : Int) < (b : Int) := by omega
                    have K0 := Lib.hid (show (i < m ∧ m < en) by omega)
                    have K1 := Lib.hid (show ¬ (a < i ∧ i < mid) by omega)
                    have K2 := Lib.hid (show ¬ (mid < en ∧ en < b) by omega)
                    clear y0 y1 y2
                    go_wp2_with fail
                    refine (rotate_z base g n c _ _ _ _ f _ i m en rfl rfl (by first | rfl | omega) hrow K0.out.1 K0.out.2 (by have := HLE.out; omega) hn).mono ?_; rintro e w1 ⟨rfl, hr1, hg1⟩
                    have HB1 := Lib.hid (grown_base hg1 hbg hbg2)
                    have HC1 := Lib.hid (HCW.out.later HB1.out)
                    have HV1 := Lib.hid (HV.out.perm (perm_rot (n := n) _ m (m - i) (en - m) f (Nat.le_refl _) (by omega) (by have := HLE.out; have := K0.out; omega) (by have := K0.out; omega) (by have := K0.out; omega)))
                    have hbg3 : base ≤ w1.heap.size := Nat.le_trans hbg2 hg1.size
                    go_wp2
                    all_goals go_end0
                    all_goals exact ⟨rfl, by rw [HFIN.out, if_pos K0.out, if_neg K1.out, if_neg K2.out]; exact hr1, (grown_trans hgr hg1)⟩
                · have f2 : (a : Int) < (i : Int) := by omega
                  have f3 : ¬ (i : Int) < (mid : Int) := by omega
                  rcases (show (mid < en ∧ en < b) ∨ (¬ mid < en) ∨ (mid < en ∧ ¬ en < b) by omega) with y2 | y2 | y2
                  · have f4 : (mid : Int) < (en : Int) := by omega
                    have f5 : (en : Int) < (b : Int) := by omega
                    exfalso; have := HLE.out; have := HEN.out; have := HN.out; omega
                  · have f4 : ¬ (mid : Int) < (en : Int) := by omega
                    exfalso; have := HLE.out; have := HEN.out; have := HN.out; omega
                  · have f4 : (mid : Int) < (en : Int) := by omega
                    have f5 : ¬ (en : Int) < (b : Int) := by omega
                    exfalso; have := HLE.out; have := HEN.out; have := HN.out; omega
              · have f0 : ¬ (i : Int) < (m : Int) := by omega
                rcases (show (a < i ∧ i < mid) ∨ (¬ a < i) ∨ (a < i ∧ ¬ i < mid) by omega) with y1 | y1 | y1
                · have f2 : (a : Int) < (i : Int) := by omega
                  have f3 : (i : Int) < (mid : Int) := by omega
                  rcases (show (mid < en ∧ en < b) ∨ (¬ mid < en) ∨ (mid < en ∧ ¬ en < b) by omega) with y2 | y2 | y2
                  · have f4 : (mid : Int) < (en : Int) := by omega
                    have f5 : (en : Int) < (b : Int) := by omega
                    exfalso; have := HLE.out; have := HEN.out; have := HN.out; omega
                  · have f4 : ¬ (mid : Int) < (en : Int) := by omega
                    have K0 := Lib.hid (show ¬ (i < m ∧ m < en) by omega)
                    have K1 := Lib.hid (show (a < i ∧ i < mid) by omega)
                    have K2 := Lib.hid (show ¬ (mid < en ∧ en < b) by omega)
                    clear y0 y1 y2
                    go_wp2_with fail
                    refine (HIH.out a i mid _ _ _ _ _ rfl rfl rfl HCW.out hrow HV.out K1.out.1 K1.out.2 (by have := HLE.out; omega) (by have := HLE.out; omega)).mono ?_; rintro e w2 ⟨rfl, hr2, hg2⟩
                    have HB2 := Lib.hid (grown_base hg2 hbg hbg2)
                    have HC2 := Lib.hid (HCW.out.later HB2.out)
                    have HV2 := Lib.hid (HV.out.perm (perm_sym (key := key) (n := n) t a i mid _ K1.out.1 K1.out.2 (by have := HLE.out; omega)))
                    go_wp2
                    all_goals go_end0
                    all_goals exact ⟨rfl, by rw [HFIN.out, if_neg K0.out, if_pos K1.out, if_neg K2.out]; exact hr2, (grown_trans hgr hg2)⟩
                  · have f4 : (mid : Int) < (en : Int) := by omega
                    have f5 : ¬ (en : Int) < (b : Int) := by omega
                    exfalso; have := HLE.out; have := HEN.out; have := HN.out; omega
                · have f2 : ¬ (a : Int) < (i : Int) := by omega
                  rcases (show (mid < en ∧ en < b) ∨ (¬ mid < en) ∨ (mid < en ∧ ¬ en < b) by omega) with y2 | y2 | y2
                  · have f4 : (mid : Int) < (en : Int) := by omega
                    have f5 : (en : Int) < (b : Int) := by omega
                    exfalso; have := HLE.out; have := HEN.out; have := HN.out; omega
                  · have f4 : ¬ (mid : Int) < (en : Int) := by omega
                    have K0 := Lib.hid (show ¬ (i < m ∧ m < en) by omega)
                    have K1 := Lib.hid (show ¬ (a < i ∧ i < mid) by omega)
                    have K2 := Lib.hid (show ¬ (mid < en ∧ en < b) by omega)
                    clear y0 y1 y2
                    go_wp2
                    all_goals go_end0
                    all_goals exact ⟨rfl, by rw [HFIN.out, if_neg K0.out, if_neg K1.out, if_neg K2.out]; exact hrow, hgr⟩
                  · have f4 : (mid : Int) < (en : Int) := by omega
                    have f5 : ¬ (en : Int) < (b : Int) := by omega
                    exfalso; have := HLE.out; have := HEN.out; have := HN.out; omega
                · have f2 : (a : Int) < (i : Int) := by omega
                  have f3 : ¬ (i : Int) < (mid : Int) := by omega
                  rcases (show (mid < en ∧ en < b) ∨ (¬ mid < en) ∨ (mid < en ∧ ¬ en < b) by omega) with y2 | y2 | y2
                  · have f4 : (mid : Int) < (en : Int) := by omega
                    have f5 : (en : Int) < (b : Int) := by omega
                    exfalso; have := HLE.out; have := HEN.out; have := HN.out; omega
                  · have f4 : ¬ (mid : Int) < (en : Int) := by omega
                    have K0 := Lib.hid (show ¬ (i < m ∧ m < en) by omega)
                    have K1 := Lib.hid (show ¬ (a < i ∧ i < mid) by omega)
                    have K2 := Lib.hid (show ¬ (mid < en ∧ en < b) by omega)
                    clear y0 y1 y2
                    go_wp2
                    all_goals go_end0
                    all_goals exact ⟨rfl, by rw [HFIN.out, if_neg K0.out, if_neg K1.out, if_neg K2.out]; exact hrow, hgr⟩
                  · have f4 : (mid : Int) < (en : Int) := by omega
                    have f5 : ¬ (en : Int) < (b : Int) := by omega
                    exfalso; have := HLE.out; have := HEN.out; have := HN.out; omega
              · have f0 : (i : Int) < (m : Int) := by omega
                have f1 : ¬ (m : Int) < (en : Int) := by omega
                rcases (show (a < i ∧ i < mid) ∨ (¬ a < i) ∨ (a < i ∧ ¬ i < mid) by omega) with y1 | y1 | y1
                · have f2 : (a : Int) < (i : Int) := by omega
                  have f3 : (i : Int) < (mid : Int) := by omega
                  rcases (show (mid < en ∧ en < b) ∨ (¬ mid < en) ∨ (mid < en ∧ ¬ en < b) by omega) with y2 | y2 | y2
                  · have f4 : (mid : Int) < (en : Int) := by omega
                    have f5 : (en : Int) < (b : Int) := by omega
                    exfalso; have := HLE.out; have := HEN.out; have := HN.out; omega
                  · have f4 : ¬ (mid : Int) < (en : Int) := by omega
                    exfalso; have := HLE.out; have := HEN.out; have := HN.out; omega
                  · have f4 : (mid : Int) < (en : Int) := by omega
                    have f5 : ¬ (en : Int) < (b : Int) := by omega
                    exfalso; have := HLE.out; have := HEN.out; have := HN.out; omega
                · have f2 : ¬ (a : Int) < (i : Int) := by omega
                  rcases (show (mid < en ∧ en < b) ∨ (¬ mid < en) ∨ (mid < en ∧ ¬ en < b) by omega) with y2 | y2 | y2
                  · have f4 : (mid : Int) < (en : Int) := by omega
                    have f5 : (en : Int) < (b : Int) := by omega
                    have K0 := Lib.hid (show ¬ (i < m ∧ m < en) by omega)
                    have K1 := Lib.hid (show ¬ (a < i ∧ i < mid) by omega)
                    have K2 := Lib.hid (show (mid < en ∧ en < b) by omega)
                    clear y0 y1 y2
                    go_wp2_with fail
                    refine (HIH.out mid en b _ _ _ _ _ rfl (by first | rfl | omega) rfl HCW.out hrow HV.out K2.out.1 K2.out.2 hb (by have := HLE.out; omega)).mono ?_; rintro e w3 ⟨rfl, hr3, hg3⟩
                    go_wp2
                    all_goals go_end0
                    all_goals exact ⟨rfl, by rw [HFIN.out, if_neg K0.out, if_neg K1.out, if_pos K2.out]; exact hr3, (grown_trans hgr hg3)⟩
                  · have f4 : ¬ (mid : Int) < (en : Int) := by omega
                    have K0 := Lib.hid (show ¬ (i < m ∧ m < en) by omega)
                    have K1 := Lib.hid (show ¬ (a < i ∧ i < mid) by omega)
                    have K2 := Lib.hid (show ¬ (mid < en ∧ en < b) by omega)
                    clear y0 y1 y2
                    go_wp2
                    all_goals go_end0
                    all_goals exact ⟨rfl, by rw [HFIN.out, if_neg K0.out, if_neg K1.out, if_neg K2.out]; exact hrow, hgr⟩
                  · have f4 : (mid : Int) < (en : Int) := by omega
                    have f5 : ¬ (en : Int) < (b : Int) := by omega
                    have K0 := Lib.hid (show ¬ (i < m ∧ m < en) by omega)
                    have K1 := Lib.hid (show ¬ (a < i ∧ i < mid) by omega)
                    have K2 := Lib.hid (show ¬ (mid < en ∧ en < b) by omega)
                    clear y0 y1 y2
                    go_wp2
                    all_goals go_end0
                    all_goals exact ⟨rfl, by rw [HFIN.out, if_neg K0.out, if_neg K1.out, if_neg K2.out]; exact hrow, hgr⟩
                · have f2 : (a : Int) < (i : Int) := by omega
                  have f3 : ¬ (i : Int) < (mid : Int) := by omega
                  rcases (show (mid < en ∧ en < b) ∨ (¬ mid < en) ∨ (mid < en ∧ ¬ en < b) by omega) with y2 | y2 | y2
                  · have f4 : (mid : Int) < (en : Int) := by omega
                    have f5 : (en : Int) < (b : Int) := by omega
                    have K0 := Lib.hid (show ¬ (i < m ∧ m < en) by omega)
                    have K1 := Lib.hid (show ¬ (a < i ∧ i < mid) by omega)
                    have K2 := Lib.hid (show (mid < en ∧ en < b) by omega)
                    clear y0 y1 y2
                    go_wp2_with fail
                    refine (HIH.out mid en b _ _ _ _ _ rfl (by first | rfl | omega) rfl HCW.out hrow HV.out K2.out.1 K2.out.2 hb (by have := HLE.out; omega)).mono ?_; rintro e w3 ⟨rfl, hr3, hg3⟩
                    go_wp2
                    all_goals go_end0
                    all_goals exact ⟨rfl, by rw [HFIN.out, if_neg K0.out, if_neg K1.out, if_pos K2.out]; exact hr3, (grown_trans hgr hg3)⟩
                  · have f4 : ¬ (mid : Int) < (en : Int) := by omega
                    have K0 := Lib.hid (show ¬ (i < m ∧ m < en) by omega)
                    have K1 := Lib.hid (show ¬ (a < i ∧ i < mid) by omega)
                    have K2 := Lib.hid (show ¬ (mid < en ∧ en < b) by omega)
                    clear y0 y1 y2
                    go_wp2
                    all_goals go_end0
                    all_goals exact ⟨rfl, by rw [HFIN.out, if_neg K0.out, if_neg K1.out, if_neg K2.out]; exact hrow, hgr⟩
                  · have f4 : (mid : Int) < (en : Int) := by omega
                    have f5 : ¬ (en : Int) < (b : Int) := by omega
                    have K0 := Lib.hid (show ¬ (i < m ∧ m < en) by omega)
                    have K1 := Lib.hid (show ¬ (a < i ∧ i < mid) by omega)
                    have K2 := Lib.hid (show ¬ (mid < en ∧ en < b) by omega)
                    clear y0 y1 y2
                    go_wp2
                    all_goals go_end0
                    all_goals exact ⟨rfl, by rw [HFIN.out, if_neg K0.out, if_neg K1.out, if_neg K2.out]; exact hrow, hgr⟩
end Go.Proofs.Yteeaeomkpecflaa
