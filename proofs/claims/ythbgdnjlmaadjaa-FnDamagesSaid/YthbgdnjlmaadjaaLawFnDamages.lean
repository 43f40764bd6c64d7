/- The law FnDamages answers true at every input, and its argument stays as it was; conditions: none. -/
import Derived.Test.YthbgdnjlmaadjaaRows
import Derived.Test.YthbgdnjlmaadjaaLawBase
import Derived.Test.YthbgdnjlmaadjaaOpenBytes
import Derived.Test.YthbgdnjlmaadjaaDamLaw
import Derived.Test.YthbgdnjlmaadjaaRepairSpec
namespace Go.Proofs.Ythbgdnjlmaadjaa
open Go.RowKit Go.ChangeShapes Go.WideShapes Go.ChangeAt

theorem dam_fix {zs : List Int} (h : rcC zs = 0) : pairC zs (rcL zs) = 0 ∧ distRes zs (rcL zs) = rcN zs ∧ cardOk (rcL zs) = true ∧ legalL (rcL zs) = true := by
  by_cases hk : cardOk zs = true
  · have h2 := pairC_ok hk (fixL_ok hk) (fixL_length zs).symm
    unfold rcL rcN
    rw [if_pos hk, if_pos hk]
    refine ⟨h2, ?_, fixL_ok hk, ?_⟩
    · unfold distRes
      rw [if_pos h2, ← fix_dist hk]
      rfl
    · refine List.all_eq_true.2 fun y hy => ?_
      obtain ⟨x, hx, rfl⟩ := List.mem_map.1 hy
      simp only [cardOk, Bool.and_eq_true] at hk
      have h1 := insideB_true (List.all_eq_true.1 hk.2 x hx)
      obtain ⟨j, hj, e1, _⟩ := near_at x h1.1 h1.2 40 (by omega) (by omega)
      have := char_code j hj
      rw [fixI, e1]
      exact (code_good ⟨(charL[j]'hj).toNat, (charL[j]'hj).toNat_lt⟩ (by simpa using this.1)).1
  · unfold rcC at h
    rw [if_neg hk] at h
    omega

set_option maxRecDepth 100000 in
set_option maxHeartbeats 16000000 in
theorem lawDamages_any (A : Option Addr) (n0 c0 : Nat) (bs0 : List UInt8) (w : World) (ha : Rd w w.heap.size 1 A n0 (byts bs0)) :
    Calls Try.prog 3 #[.slice A n0 c0] w fun e w' => e = .returned (.bool true) ∧ Below w.heap.size w w' := by
  by_cases hn : 4096 < n0
  · go_enter Try.func3, Try.ntmps3
    go_wp2_with fail
    refine (f6big_yes A n0 c0 _ hn).mono ?_; rintro e w1 ⟨rfl, rfl⟩
    go_wp2
    go_ret
    exact ⟨rfl, b0 _⟩
  · go_enter Try.func3, Try.ntmps3
    go_wp2_with fail
    refine (f6big_no A n0 c0 _ hn).mono ?_; rintro e w1 ⟨rfl, rfl⟩
    go_wp2_with fail
    refine (DrawDistanceOf_any A n0 c0 bs0 _ ha (by omega)).mono ?_
    rintro e v1 ⟨B, n, d, xs, C, m, g, ys, rfl, hxl, hn40, hyl, hm40, ox, oy, hb1⟩
    subst hxl hyl
    have hcx := (own_cap ox.1).1
    have hcy := (own_cap oy.1).1
    have T := hb1
    replace ha := ha.up hb1
    have k1 := cell_new (w := v1) (cs := #[.slice B xs.length d]) (e := 26) (j := 0) rfl rfl
    have U1 := ba (b0 v1) (.cells #[.slice B xs.length d] 26)
    have k2 := cell_new (w := v1.alloc (.cells #[.slice B xs.length d] 26)) (cs := #[.slice C ys.length g]) (e := 26) (j := 0) (H := v1.heap.size + 1) (by simp) rfl
    have U2 := ba (b0 (v1.alloc (.cells #[.slice B xs.length d] 26))) (.cells #[.slice C ys.length g] 26)
    replace k1 := cell_later U2 k1
    replace ox := (ox.bs U1).bs U2
    replace oy := (oy.bs U1).bs U2
    replace ha := (ha.up U1).up U2
    replace T := bs (bs T U1) U2
    clear U1 U2 hb1
    obtain ⟨N, hN⟩ : ∃ N, N = distRes xs ys := ⟨_, rfl⟩
    obtain ⟨P, hP⟩ : ∃ P, P = pairC xs ys := ⟨_, rfl⟩
    obtain ⟨ad, had⟩ : ∃ ad, ad = addedRes xs ys := ⟨_, rfl⟩
    obtain ⟨lo, hlo⟩ : ∃ lo, lo = lostRes xs ys := ⟨_, rfl⟩
    have HDZ := Lib.hid (fun h => dam_zero (xs := xs) (ys := ys) h)
    have HSW := Lib.hid (show distRes ys xs = N ∧ pairC ys xs = P ∧ addedRes ys xs = lo from ⟨by rw [dist_swap, hN], by rw [pairC_swap, hP], by rw [addedRes_swap, hlo]⟩)
    have had40 := addedRes_length xs ys
    have hlo40 := lostRes_length xs ys
    rw [← hN, ← hP, ← had, ← hlo] at HDZ
    rw [← had] at had40
    rw [← hlo] at hlo40
    have HN := Lib.hid hN
    have HP := Lib.hid hP
    have HA := Lib.hid had
    have HL := Lib.hid hlo
    clear hN hP had hlo
    go_wp2_with fail
    refine (DistanceOf_any B d xs C g ys _ ox.rd (by omega) hcx oy.rd (by omega) hcy).mono ?_
    rw [← HN.out, ← HP.out]
    rintro e v2 ⟨rfl, hb2⟩
    replace k1 := cell_later hb2 k1
    replace k2 := cell_later hb2 k2
    replace ox := ox.bs hb2
    replace oy := oy.bs hb2
    replace ha := ha.up hb2
    replace T := bs T hb2
    go_wp2_with fail
    refine (spDistanceOf_any B d xs C g ys _ ox.rd (by omega) hcx oy.rd (by omega) hcy).mono ?_
    rw [← HN.out, ← HP.out]
    rintro e v3 ⟨rfl, hb3⟩
    replace k1 := cell_later hb3 k1
    replace k2 := cell_later hb3 k2
    replace ox := ox.bs hb3
    replace oy := oy.bs hb3
    replace ha := ha.up hb3
    replace T := bs T hb3
    go_wp2_with fail
    refine (DistanceOf_any C g ys B d xs _ oy.rd (by omega) hcy ox.rd (by omega) hcx).mono ?_
    rw [HSW.out.1, HSW.out.2.1]
    rintro e v4 ⟨rfl, hb4⟩
    replace k1 := cell_later hb4 k1
    replace k2 := cell_later hb4 k2
    replace ox := ox.bs hb4
    replace oy := oy.bs hb4
    replace ha := ha.up hb4
    replace T := bs T hb4
    go_wp2_with fail
    refine (AddedHoles_any B d xs C g ys _ ox.rd (by omega) hcx oy.rd (by omega) hcy).mono ?_
    rw [← HA.out, ← HP.out]
    rintro e v5 ⟨Qa1, qa1, rfl, oa1', hb5⟩
    replace k1 := cell_later hb5 k1
    replace k2 := cell_later hb5 k2
    replace ox := ox.bs hb5
    replace oy := oy.bs hb5
    replace ha := ha.up hb5
    replace T := bs T hb5
    have oa1 := Ob.of oa1'
    clear oa1'
    go_wp2_with fail
    refine (spAddedHoles_any B d xs C g ys _ ox.rd (by omega) hcx oy.rd (by omega) hcy).mono ?_
    rw [← HA.out, ← HP.out]
    rintro e v6 ⟨Qa2, qa2, rfl, oa2', hb6⟩
    replace k1 := cell_later hb6 k1
    replace k2 := cell_later hb6 k2
    replace ox := ox.bs hb6
    replace oy := oy.bs hb6
    replace oa1 := oa1.bs hb6
    replace ha := ha.up hb6
    replace T := bs T hb6
    have oa2 := Ob.of oa2'
    clear oa2'
    go_wp2_with fail
    refine (LostHoles_any B d xs C g ys _ ox.rd (by omega) hcx oy.rd (by omega) hcy).mono ?_
    rw [← HL.out, ← HP.out]
    rintro e v7 ⟨Ql1, ql1, rfl, ol1', hb7⟩
    replace k1 := cell_later hb7 k1
    replace k2 := cell_later hb7 k2
    replace ox := ox.bs hb7
    replace oy := oy.bs hb7
    replace oa1 := oa1.bs hb7
    replace oa2 := oa2.bs hb7
    replace ha := ha.up hb7
    replace T := bs T hb7
    have ol1 := Ob.of ol1'
    clear ol1'
    go_wp2_with fail
    refine (spLostHoles_any B d xs C g ys _ ox.rd (by omega) hcx oy.rd (by omega) hcy).mono ?_
    rw [← HL.out, ← HP.out]
    rintro e v8 ⟨Ql2, ql2, rfl, ol2', hb8⟩
    replace k1 := cell_later hb8 k1
    replace k2 := cell_later hb8 k2
    replace ox := ox.bs hb8
    replace oy := oy.bs hb8
    replace oa1 := oa1.bs hb8
    replace oa2 := oa2.bs hb8
    replace ol1 := ol1.bs hb8
    replace ha := ha.up hb8
    replace T := bs T hb8
    have ol2 := Ob.of ol2'
    clear ol2'
    go_wp2_with fail
    refine (AddedHoles_any C g ys B d xs _ oy.rd (by omega) hcy ox.rd (by omega) hcx).mono ?_
    rw [HSW.out.2.2, HSW.out.2.1]
    rintro e v9 ⟨Ql3, ql3, rfl, ol3', hb9⟩
    replace k1 := cell_later hb9 k1
    replace k2 := cell_later hb9 k2
    replace ox := ox.bs hb9
    replace oy := oy.bs hb9
    replace oa1 := oa1.bs hb9
    replace oa2 := oa2.bs hb9
    replace ol1 := ol1.bs hb9
    replace ol2 := ol2.bs hb9
    replace ha := ha.up hb9
    replace T := bs T hb9
    have ol3 := Ob.of ol3'
    clear ol3'
    go_wp2_with fail
    refine (DrawRepairCard_any A n0 c0 bs0 _ ha (by omega)).mono ?_
    rintro e v10 ⟨E, p, f, zs, rfl, hzl, hp40, oz, hb10⟩
    replace k1 := cell_later hb10 k1
    replace k2 := cell_later hb10 k2
    replace ox := ox.bs hb10
    replace oy := oy.bs hb10
    replace oa1 := oa1.bs hb10
    replace oa2 := oa2.bs hb10
    replace ol1 := ol1.bs hb10
    replace ol2 := ol2.bs hb10
    replace ol3 := ol3.bs hb10
    replace ha := ha.up hb10
    replace T := bs T hb10
    subst hzl
    have hcz := (own_cap oz.1).1
    obtain ⟨rl, hrl⟩ : ∃ rl, rl = rcL zs := ⟨_, rfl⟩
    obtain ⟨rn, hrn⟩ : ∃ rn, rn = rcN zs := ⟨_, rfl⟩
    obtain ⟨rc, hrc⟩ : ∃ rc, rc = rcC zs := ⟨_, rfl⟩
    have hrl20 := rcL_length zs
    rw [← hrl] at hrl20
    have HRL := Lib.hid hrl
    have HRN := Lib.hid hrn
    have HRC := Lib.hid hrc
    have HFX := Lib.hid (fun h => dam_fix (zs := zs) h)
    rw [← hrl, ← hrn, ← hrc] at HFX
    clear hrl hrn hrc
    have k3 := cell_new (w := v10) (cs := #[.slice E zs.length f]) (e := 26) (j := 0) rfl rfl
    have hb11 := ba (b0 v10) (.cells #[.slice E zs.length f] 26)
    replace k1 := cell_later hb11 k1
    replace k2 := cell_later hb11 k2
    replace ox := ox.bs hb11
    replace oy := oy.bs hb11
    replace oa1 := oa1.bs hb11
    replace oa2 := oa2.bs hb11
    replace ol1 := ol1.bs hb11
    replace ol2 := ol2.bs hb11
    replace ol3 := ol3.bs hb11
    replace oz := oz.bs hb11
    replace ha := ha.up hb11
    replace T := bs T hb11
    go_wp2_with fail
    refine (RepairCard_any E f zs _ oz.rd (by omega) hcz).mono ?_
    rw [← HRL.out, ← HRN.out, ← HRC.out]
    rintro e v12 ⟨X, dx, rfl, ox1', hb12⟩
    replace k1 := cell_later hb12 k1
    replace k2 := cell_later hb12 k2
    replace k3 := cell_later hb12 k3
    replace ox := ox.bs hb12
    replace oy := oy.bs hb12
    replace oa1 := oa1.bs hb12
    replace oa2 := oa2.bs hb12
    replace ol1 := ol1.bs hb12
    replace ol2 := ol2.bs hb12
    replace ol3 := ol3.bs hb12
    replace oz := oz.bs hb12
    replace ha := ha.up hb12
    replace T := bs T hb12
    have ox1 := Ob.of ox1'
    clear ox1'
    have hcx1 := (own_cap ox1.1).1
    have k4 := cell_new (w := v12) (cs := #[.slice X rl.length dx]) (e := 26) (j := 0) rfl rfl
    have hb13 := ba (b0 v12) (.cells #[.slice X rl.length dx] 26)
    replace k1 := cell_later hb13 k1
    replace k2 := cell_later hb13 k2
    replace k3 := cell_later hb13 k3
    replace ox := ox.bs hb13
    replace oy := oy.bs hb13
    replace oa1 := oa1.bs hb13
    replace oa2 := oa2.bs hb13
    replace ol1 := ol1.bs hb13
    replace ol2 := ol2.bs hb13
    replace ol3 := ol3.bs hb13
    replace oz := oz.bs hb13
    replace ox1 := ox1.bs hb13
    replace ha := ha.up hb13
    replace T := bs T hb13
    go_wp2_with fail
    refine (spRepairCard_any E f zs _ oz.rd (by omega) hcz).mono ?_
    rw [← HRL.out, ← HRN.out, ← HRC.out]
    rintro e v14 ⟨Y, dy, rfl, oy1', hb14⟩
    replace k1 := cell_later hb14 k1
    replace k2 := cell_later hb14 k2
    replace k3 := cell_later hb14 k3
    replace k4 := cell_later hb14 k4
    replace ox := ox.bs hb14
    replace oy := oy.bs hb14
    replace oa1 := oa1.bs hb14
    replace oa2 := oa2.bs hb14
    replace ol1 := ol1.bs hb14
    replace ol2 := ol2.bs hb14
    replace ol3 := ol3.bs hb14
    replace oz := oz.bs hb14
    replace ox1 := ox1.bs hb14
    replace ha := ha.up hb14
    replace T := bs T hb14
    have oy1 := Ob.of oy1'
    clear oy1'
    have hcy1 := (own_cap oy1.1).1
    have k5 := cell_new (w := v14) (cs := #[.slice Y rl.length dy]) (e := 26) (j := 0) rfl rfl
    have hb15 := ba (b0 v14) (.cells #[.slice Y rl.length dy] 26)
    replace k1 := cell_later hb15 k1
    replace k2 := cell_later hb15 k2
    replace k3 := cell_later hb15 k3
    replace k4 := cell_later hb15 k4
    replace ox := ox.bs hb15
    replace oy := oy.bs hb15
    replace oa1 := oa1.bs hb15
    replace oa2 := oa2.bs hb15
    replace ol1 := ol1.bs hb15
    replace ol2 := ol2.bs hb15
    replace ol3 := ol3.bs hb15
    replace oz := oz.bs hb15
    replace ox1 := ox1.bs hb15
    replace oy1 := oy1.bs hb15
    replace ha := ha.up hb15
    replace T := bs T hb15
    go_wp2_with fail
    refine (DrawRepairColumn_any A n0 c0 bs0 _ ha (by omega)).mono ?_
    rintro e v16 ⟨z, rfl, hb16⟩
    replace k1 := cell_later hb16 k1
    replace k2 := cell_later hb16 k2
    replace k3 := cell_later hb16 k3
    replace k4 := cell_later hb16 k4
    replace k5 := cell_later hb16 k5
    replace ox := ox.bs hb16
    replace oy := oy.bs hb16
    replace oa1 := oa1.bs hb16
    replace oa2 := oa2.bs hb16
    replace ol1 := ol1.bs hb16
    replace ol2 := ol2.bs hb16
    replace ol3 := ol3.bs hb16
    replace oz := oz.bs hb16
    replace ox1 := ox1.bs hb16
    replace oy1 := oy1.bs hb16
    replace ha := ha.up hb16
    replace T := bs T hb16
    obtain ⟨ka, hka⟩ : ∃ ka, ka = repA z := ⟨_, rfl⟩
    obtain ⟨kn, hkn⟩ : ∃ kn, kn = repN z := ⟨_, rfl⟩
    obtain ⟨kc, hkc⟩ : ∃ kc, kc = repC z := ⟨_, rfl⟩
    have HKA := Lib.hid hka
    have HKN := Lib.hid hkn
    have HKC := Lib.hid hkc
    clear hka hkn hkc
    go_wp2_with fail
    refine (RepairColumn_any z _).mono ?_
    rw [← HKA.out, ← HKN.out, ← HKC.out]
    rintro e v17 ⟨rfl, hb17⟩
    replace k1 := cell_later hb17 k1
    replace k2 := cell_later hb17 k2
    replace k3 := cell_later hb17 k3
    replace k4 := cell_later hb17 k4
    replace k5 := cell_later hb17 k5
    replace ox := ox.bs hb17
    replace oy := oy.bs hb17
    replace oa1 := oa1.bs hb17
    replace oa2 := oa2.bs hb17
    replace ol1 := ol1.bs hb17
    replace ol2 := ol2.bs hb17
    replace ol3 := ol3.bs hb17
    replace oz := oz.bs hb17
    replace ox1 := ox1.bs hb17
    replace oy1 := oy1.bs hb17
    replace ha := ha.up hb17
    replace T := bs T hb17
    go_wp2_with fail
    refine (spRepairColumn_any z _).mono ?_
    rw [← HKA.out, ← HKN.out, ← HKC.out]
    rintro e v18 ⟨rfl, hb18⟩
    replace k1 := cell_later hb18 k1
    replace k2 := cell_later hb18 k2
    replace k3 := cell_later hb18 k3
    replace k4 := cell_later hb18 k4
    replace k5 := cell_later hb18 k5
    replace ox := ox.bs hb18
    replace oy := oy.bs hb18
    replace oa1 := oa1.bs hb18
    replace oa2 := oa2.bs hb18
    replace ol1 := ol1.bs hb18
    replace ol2 := ol2.bs hb18
    replace ol3 := ol3.bs hb18
    replace oz := oz.bs hb18
    replace ox1 := ox1.bs hb18
    replace oy1 := oy1.bs hb18
    replace ha := ha.up hb18
    replace T := bs T hb18
    have n1 : (P != P) = false := bne_f rfl
    have n2 : (N != N) = false := bne_f rfl
    have n3 : (rc != rc) = false := bne_f rfl
    have n4 : (rn != rn) = false := bne_f rfl
    have n5 : (ka != ka) = false := bne_f rfl
    have n6 : (kn != kn) = false := bne_f rfl
    have n7 : (kc != kc) = false := bne_f rfl
    go_wp2_with fail
    refine (f6ints_eq ad.length Qa1 Qa2 qa1 qa2 ad _ rfl oa1.rd oa2.rd (by omega)).mono ?_
    rintro e v19 ⟨rfl, hb19⟩
    replace k1 := cell_later hb19 k1
    replace k2 := cell_later hb19 k2
    replace k3 := cell_later hb19 k3
    replace k4 := cell_later hb19 k4
    replace k5 := cell_later hb19 k5
    replace ox := ox.bs hb19
    replace oy := oy.bs hb19
    replace oa1 := oa1.bs hb19
    replace oa2 := oa2.bs hb19
    replace ol1 := ol1.bs hb19
    replace ol2 := ol2.bs hb19
    replace ol3 := ol3.bs hb19
    replace oz := oz.bs hb19
    replace ox1 := ox1.bs hb19
    replace oy1 := oy1.bs hb19
    replace ha := ha.up hb19
    replace T := bs T hb19
    go_wp2_with fail
    refine (f6ints_eq lo.length Ql1 Ql2 ql1 ql2 lo _ rfl ol1.rd ol2.rd (by omega)).mono ?_
    rintro e v20 ⟨rfl, hb20⟩
    replace k1 := cell_later hb20 k1
    replace k2 := cell_later hb20 k2
    replace k3 := cell_later hb20 k3
    replace k4 := cell_later hb20 k4
    replace k5 := cell_later hb20 k5
    replace ox := ox.bs hb20
    replace oy := oy.bs hb20
    replace oa1 := oa1.bs hb20
    replace oa2 := oa2.bs hb20
    replace ol1 := ol1.bs hb20
    replace ol2 := ol2.bs hb20
    replace ol3 := ol3.bs hb20
    replace oz := oz.bs hb20
    replace ox1 := ox1.bs hb20
    replace oy1 := oy1.bs hb20
    replace ha := ha.up hb20
    replace T := bs T hb20
    go_wp2_with fail
    refine (f6ints_eq lo.length Ql3 Ql2 ql3 ql2 lo _ rfl ol3.rd ol2.rd (by omega)).mono ?_
    rintro e v21 ⟨rfl, hb21⟩
    replace k1 := cell_later hb21 k1
    replace k2 := cell_later hb21 k2
    replace k3 := cell_later hb21 k3
    replace k4 := cell_later hb21 k4
    replace k5 := cell_later hb21 k5
    replace ox := ox.bs hb21
    replace oy := oy.bs hb21
    replace oa1 := oa1.bs hb21
    replace oa2 := oa2.bs hb21
    replace ol1 := ol1.bs hb21
    replace ol2 := ol2.bs hb21
    replace ol3 := ol3.bs hb21
    replace oz := oz.bs hb21
    replace ox1 := ox1.bs hb21
    replace oy1 := oy1.bs hb21
    replace ha := ha.up hb21
    replace T := bs T hb21
    go_wp2_with fail
    refine (spSameCard_eq X Y dx dy rl rl _ rfl ox1.rd oy1.rd (by omega)).mono ?_
    rintro e v22 ⟨rfl, hb22⟩
    replace k1 := cell_later hb22 k1
    replace k2 := cell_later hb22 k2
    replace k3 := cell_later hb22 k3
    replace k4 := cell_later hb22 k4
    replace k5 := cell_later hb22 k5
    replace ox := ox.bs hb22
    replace oy := oy.bs hb22
    replace oa1 := oa1.bs hb22
    replace oa2 := oa2.bs hb22
    replace ol1 := ol1.bs hb22
    replace ol2 := ol2.bs hb22
    replace ol3 := ol3.bs hb22
    replace oz := oz.bs hb22
    replace ox1 := ox1.bs hb22
    replace oy1 := oy1.bs hb22
    replace ha := ha.up hb22
    replace T := bs T hb22
    clear n1 n2 n3 n4 n5 n6 n7
    have D : (P == 0) = false ∨ ((P == 0) = true ∧ (N == 0) = true ∧ ((ad.length : Int) == 0) = true ∧ ((lo.length : Int) == 0) = true) ∨ ((P == 0) = true ∧ (N == 0) = false ∧ ((ad.length : Int) == 0) = true ∧ ((lo.length : Int) == 0) = false) ∨ ((P == 0) = true ∧ (N == 0) = false ∧ ((ad.length : Int) == 0) = false) := by
      by_cases hP : P = 0
      · have hz := HDZ.out hP
        by_cases hN : N = 0
        · obtain ⟨a0, l0⟩ := hz.1 hN
          exact .inr (.inl ⟨beq_t hP, beq_t hN, beq_t (by omega), beq_t (by omega)⟩)
        · by_cases a0 : ad.length = 0
          · exact .inr (.inr (.inl ⟨beq_t hP, beq_f hN, beq_t (by omega), beq_f fun l0 => hN (hz.2 ⟨a0, by omega⟩)⟩))
          · exact .inr (.inr (.inr ⟨beq_t hP, beq_f hN, beq_f (by omega)⟩))
      · exact .inl (beq_f hP)
    clear HDZ HSW HN HP HA HL
    by_cases hc : rc = 0
    · have m1 : (rc != 0) = false := bne_f hc
      obtain ⟨f1, f2, f3, f4⟩ := HFX.out hc
      have F1 := Lib.hid f1
      have F2 := Lib.hid f2
      have m2 : (rn == rn) = true := beq_t rfl
      clear f1 f2 hc
      rcases D with j1 | ⟨j1, j2, j3, j4⟩ | ⟨j1, j2, j3, j4⟩ | ⟨j1, j2, j3⟩
      all_goals
        go_wp2_with fail
        refine (DistanceOf_any E f zs X dx rl _ oz.rd (by omega) hcz ox1.rd (by omega) hcx1).mono ?_
        rw [F1.out, F2.out]
        rintro e u1 ⟨rfl, hbu1⟩
        replace ox1 := ox1.bs hbu1
        replace k4 := cell_later hbu1 k4
        replace T := bs T hbu1
        go_wp2_with fail
        refine (IllegalColumns_good X rl.length dx rl _ rfl f3 f4 ox1.rd (by omega) hcx1).mono ?_
        rintro e u2 ⟨G, cg, rfl, hbu2⟩
        go_wp2
        go_ret
        exact ⟨rfl, bs T hbu2⟩
    · have m1 : (rc != 0) = true := bne_t hc
      rcases D with j1 | ⟨j1, j2, j3, j4⟩ | ⟨j1, j2, j3, j4⟩ | ⟨j1, j2, j3⟩
      all_goals
        go_wp2
        go_ret
        exact ⟨rfl, T⟩

set_option maxRecDepth 100000 in
theorem lawDamages_lifted (os : Os) (started : os.Started) (H : Type) (enc : TypeId × Value → H) :
    ReturnsInHanded {} Try.checked os 3 .any (Rows.fnDamagesSpec.pre6 enc Try.prog Try.f3 Rows.fnDamagesRow.domain false) (Rows.fnDamagesSpec.post enc Try.prog Try.f3 false true false false) := by
  refine returnsInHanded_of_change (C := Try.checked) lawOwn started (by kernel_rfl) Try.func3
    (ChangeSpec.witness6 (enc := enc) (C := Try.checked) false ⟨#[], #[.slice none 0 0], []⟩ 8 (by kernel_rfl) (by kernel_rfl) (by kernel_rfl) (by kernel_rfl)) ?_
  intro W base args ds gs before hval0 hW _ _
  have hval : ∀ (j : Nat) t v, Try.f3.params[j]? = some t → args[j]? = some v → Value.okWide Try.prog W .any base t v := hval0
  clear hval0
  have hW0 : DataW.Whole enc Try.prog Try.f3.params.toList Rows.fnDamagesSpec.vars false W args.toList ds gs before := hW
  clear hW
  have hW := hW0
  obtain ⟨p, q, hA, hV, _, _, _⟩ := hW
  rw [Try.params3] at hA hval
  obtain ⟨v0, vs0, d0, ds0, p0, q0, hargs, rfl, rfl, h0, hA0⟩ := trodAll_cons hA
  obtain ⟨rfl, rfl, rfl⟩ := trodAll_nil hA0
  have hargs2 : args = #[v0] := by cases args; simp_all
  clear hargs
  subst hargs2
  obtain ⟨A0, c0, bs0, rfl, hc0, hm0, r0⟩ := in_bytes Try.underlying22 Try.underlying5 (by kernel_rfl) (hval 0 22 v0 rfl rfl) h0
  have hcall := lawDamages_any A0 _ c0 bs0 W r0
  refine hcall.mono fun e W' ⟨he, hb⟩ => ⟨_, he, ?_⟩
  exact post_law (f := Try.f3) (s := Rows.fnDamagesSpec) hW0 rfl (tb := 4) rfl Try.underlying4 rfl lawLaid (by kernel_rfl) hb

theorem fnDamages_holds : Rows.FnDamagesSaid :=
  OpenClaim.holds_of_wide 3 Try.f3 rfl rfl rfl rfl rfl rfl rfl ⟨rfl, rfl, rfl, rfl, rfl⟩ rfl rfl rfl rfl rfl (by kernel_rfl) Try.func3 (by kernel_rfl)
    (of_decide_eq_true (by kernel_rfl)) (by unfold Func.isWrapper; first | (rw [if_pos (by decide +kernel)]; kernel_rfl) | (rw [if_neg (by decide +kernel)]; exact ⟨rfl, rfl⟩))
    (fun os started H enc _ => lawDamages_lifted os started H enc)
#print axioms fnDamages_holds
end Go.Proofs.Ythbgdnjlmaadjaa
