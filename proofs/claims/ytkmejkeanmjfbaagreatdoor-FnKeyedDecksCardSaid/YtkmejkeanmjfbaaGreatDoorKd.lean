/- The law FnKeyedDecks answers true at every input, and its argument stays as it was; condition: the listed tables and errors of the library. The card of it. -/
import Derived.Test.YtkmejkeanmjfbaaGreatDoorCards
import Derived.Test.YtkmejkeanmjfbaaGreatDoorTie
import Derived.Test.YtkmejkeanmjfbaaGreatDoorKd22
import Derived.Test.YtkmejkeanmjfbaaGreatDoorKd23
import Derived.Test.YtkmejkeanmjfbaaGreatDoorKd27
import Derived.Test.YtkmejkeanmjfbaaGreatDoorKd32
import Derived.Test.YtkmejkeanmjfbaaGreatDoorKd35
import Derived.Test.YtkmejkeanmjfbaaGreatDoorKd40
import Derived.Test.YtkmejkeanmjfbaaGreatDoorKd43
import Derived.Test.YtkmejkeanmjfbaaGreatDoorKd44
import Derived.Test.YtkmejkeanmjfbaaGreatDoorKd41
import Derived.Test.YtkmejkeanmjfbaaGreatDoorKd46
/-! ### LawFnKeyedDecks -/
namespace Go.Proofs.YtkmejkeanmjfbaaGreatDoor
open Go.RowKit Go.ChangeShapes Go.WideShapes Go.ChangeAt

theorem lst_ne (a : List UInt8) : (a != a) = false := by simp
theorem kd_tot {s : ByteArray} {xs : List Int} {ts : List ByteArray} {gs : List Hd} (h : cards gs = paR s xs ts) (hs : s.size ≤ 21) : gs.length + tot gs ≤ 1681 := by
  obtain ⟨h1, h2⟩ := pa_len h hs
  exact len_tot h2 (by omega)

set_option maxRecDepth 100000 in
set_option maxHeartbeats 16000000 in
theorem lawKeyedDecks_any (A : Option Addr) (n0 c0 : Nat) (bs0 : List UInt8) (w : World) (ha : Rd w w.heap.size 1 A n0 (byts bs0)) (he : EnvOk w) :
    Calls Tryz.prog 3 #[.slice A n0 c0] w fun e w' => e = .returned (.bool true) ∧ Below w.heap.size w w' := by
  by_cases hn : 4096 < n0
  · go_enter Tryz.func3, Tryz.ntmps3
    go_wp2_with fail
    refine (f6big_yes A n0 c0 _ hn).mono ?_; rintro e w1 ⟨rfl, rfl⟩
    go_wp2
    go_ret
    exact ⟨rfl, b0 _⟩
  · go_enter Tryz.func3, Tryz.ntmps3
    go_wp2_with fail
    refine (f6big_no A n0 c0 _ hn).mono ?_; rintro e w1 ⟨rfl, rfl⟩
    go_wp2_with fail
    refine (DrawPunchAll_any A n0 c0 bs0 _ ha (by omega)).mono ?_
    rintro e v1 ⟨s1, B1, m1, d1, x1, K1, ck1, t1, hs1, rfl, hx1, hm1, hl1, h22, ox1, ok1, hb1⟩
    replace he := he.bs hb1
    replace ha := ha.up hb1
    subst hx1
    have hc1 := (own_cap ox1.1).1
    have T := hb1
    have k1 := cell_new (w := v1) (cs := #[.slice B1 x1.length d1]) (e := 26) (j := 0) (H := v1.heap.size) rfl rfl
    have hb2 := ba (b0 (v1)) (.cells #[.slice B1 x1.length d1] 26)
    replace he := he.bs hb2
    replace ox1 := ox1.bs hb2
    replace ok1 := ok1.bs hb2
    replace ha := ha.up hb2
    replace T := bs T hb2
    clear hb2
    obtain ⟨Z1, hZ1⟩ : ∃ Z1, Z1 = paC s1 x1 t1 := ⟨_, rfl⟩
    obtain ⟨L1, hL1⟩ : ∃ L1, L1 = paR s1 x1 t1 := ⟨_, rfl⟩
    have HPA := Lib.hid (show Z1 = 0 → vaC s1 x1 L1 t1 = 0 ∧ vaR s1 x1 L1 t1 = [] ∧ L1.length = t1.length from fun h => by rw [hL1]; exact kd_punched (by rw [← hZ1]; exact h))
    have HZ1 := Lib.hid hZ1
    clear hZ1
    have HL1 := Lib.hid hL1
    clear hL1
    go_wp2_with fail
    refine (PunchAll_any s1 B1 d1 x1 K1 ck1 t1 _ (by omega) ox1.rd (by omega) hc1 ok1.rd (by omega) (fun t ht => Nat.le_trans (h22 t ht) (by omega))).mono ?_
    rw [← HZ1.out, ← HL1.out]
    rintro e v3 ⟨D1, cd1, g1, rfl, hg1, od1, hb3⟩
    replace k1 := cell_later hb3 k1
    replace he := he.bs hb3
    replace ox1 := ox1.bs hb3
    replace ok1 := ok1.bs hb3
    replace ha := ha.up hb3
    replace T := bs T hb3
    have hg140 := (pa_len (by rw [hg1, HL1.out]) hs1).1
    have tg1 := kd_tot (by rw [hg1, HL1.out]) hs1
    have HG1 := Lib.hid hg1
    have cg1 := od1.cap.1
    clear hg1
    go_wp2_with fail
    refine (spPunchAll_any s1 B1 d1 x1 K1 ck1 t1 _ (by omega) ox1.rd (by omega) hc1 ok1.rd (by omega) (fun t ht => Nat.le_trans (h22 t ht) (by omega))).mono ?_
    rw [← HZ1.out, ← HL1.out]
    rintro e v4 ⟨D2, cd2, g2, rfl, hg2, od2, hb4⟩
    replace k1 := cell_later hb4 k1
    replace he := he.bs hb4
    replace ox1 := ox1.bs hb4
    replace ok1 := ok1.bs hb4
    replace od1 := od1.bs hb4
    replace ha := ha.up hb4
    replace T := bs T hb4
    have hg240 := (pa_len (by rw [hg2, HL1.out]) hs1).1
    have tg2 := kd_tot (by rw [hg2, HL1.out]) hs1
    have HG2 := Lib.hid hg2
    have cg2 := od2.cap.1
    clear hg2
    go_wp2_with fail
    refine (DrawVerifyAll_any A n0 c0 bs0 _ ha (by omega)).mono ?_
    rintro e v5 ⟨s2, B2, m2, d2, x2, E2, ce2, p2, K2, ck2, t2, hs2, rfl, hx2, hm2, hl2, h222, hpl, hpL, rx2, hcx2, rd2, hce2, rk2, hb5⟩
    replace k1 := cell_later hb5 k1
    replace he := he.bs hb5
    replace ox1 := ox1.bs hb5
    replace ok1 := ok1.bs hb5
    replace od1 := od1.bs hb5
    replace od2 := od2.bs hb5
    replace ha := ha.up hb5
    replace T := bs T hb5
    subst hx2
    have tp2 := len_tot hpL hpl
    have k2 := cell_new (w := v5) (cs := #[.slice B2 x2.length d2]) (e := 26) (j := 0) (H := v5.heap.size) rfl rfl
    have hb6 := ba (b0 (v5)) (.cells #[.slice B2 x2.length d2] 26)
    replace k1 := cell_later hb6 k1
    replace he := he.bs hb6
    replace ox1 := ox1.bs hb6
    replace ok1 := ok1.bs hb6
    replace od1 := od1.bs hb6
    replace od2 := od2.bs hb6
    replace ha := ha.up hb6
    replace rx2 := rx2.up hb6
    replace rd2 := rd2.up hb6
    replace rk2 := rk2.up hb6
    replace T := bs T hb6
    clear hb6
    obtain ⟨Z2, hZ2⟩ : ∃ Z2, Z2 = vaC s2 x2 (cards p2) t2 := ⟨_, rfl⟩
    obtain ⟨L2, hL2⟩ : ∃ L2, L2 = vaR s2 x2 (cards p2) t2 := ⟨_, rfl⟩
    have hL240 : L2.length ≤ 40 := by rw [hL2]; exact vaR_length _ _ _ _
    have HZ2 := Lib.hid hZ2
    clear hZ2
    have HL2 := Lib.hid hL2
    clear hL2
    go_wp2_with fail
    refine (VerifyAll_any s2 B2 d2 x2 E2 ce2 p2 K2 ck2 t2 _ (by omega) rx2 (by omega) hcx2 rd2 (by omega) hce2 rk2 (by omega) (fun t ht => Nat.le_trans (h222 t ht) (by omega))).mono ?_
    rw [← HZ2.out, ← HL2.out]
    rintro e v7 ⟨Q3, e3, rfl, oq3, hb7⟩
    replace k1 := cell_later hb7 k1
    replace k2 := cell_later hb7 k2
    replace he := he.bs hb7
    replace ox1 := ox1.bs hb7
    replace ok1 := ok1.bs hb7
    replace od1 := od1.bs hb7
    replace od2 := od2.bs hb7
    replace ha := ha.up hb7
    replace rx2 := rx2.up hb7
    replace rd2 := rd2.up hb7
    replace rk2 := rk2.up hb7
    replace T := bs T hb7
    replace oq3 := Ob.of oq3
    go_wp2_with fail
    refine (spVerifyAll_any s2 B2 d2 x2 E2 ce2 p2 K2 ck2 t2 _ (by omega) rx2 (by omega) hcx2 rd2 (by omega) hce2 rk2 (by omega) (fun t ht => Nat.le_trans (h222 t ht) (by omega))).mono ?_
    rw [← HZ2.out, ← HL2.out]
    rintro e v8 ⟨Q4, e4, rfl, oq4, hb8⟩
    replace k1 := cell_later hb8 k1
    replace k2 := cell_later hb8 k2
    replace he := he.bs hb8
    replace ox1 := ox1.bs hb8
    replace ok1 := ok1.bs hb8
    replace od1 := od1.bs hb8
    replace od2 := od2.bs hb8
    replace oq3 := oq3.bs hb8
    replace ha := ha.up hb8
    replace rx2 := rx2.up hb8
    replace rd2 := rd2.up hb8
    replace rk2 := rk2.up hb8
    replace T := bs T hb8
    replace oq4 := Ob.of oq4
    clear rx2 rd2 rk2 hpL tp2 k2
    go_wp2_with fail
    refine (DrawCorrectColumn_any A n0 c0 bs0 _ ha (by omega)).mono ?_
    rintro e v9 ⟨B3, m3, d3, x3, k3, c3, rfl, hx3, hm3, ox3, hb9⟩
    replace k1 := cell_later hb9 k1
    replace he := he.bs hb9
    replace ox1 := ox1.bs hb9
    replace ok1 := ok1.bs hb9
    replace od1 := od1.bs hb9
    replace od2 := od2.bs hb9
    replace oq3 := oq3.bs hb9
    replace oq4 := oq4.bs hb9
    replace ha := ha.up hb9
    replace T := bs T hb9
    subst hx3
    have hc3 := (own_cap ox3.1).1
    have k3c := cell_new (w := v9) (cs := #[.slice B3 x3.length d3]) (e := 26) (j := 0) (H := v9.heap.size) rfl rfl
    have hb10 := ba (b0 (v9)) (.cells #[.slice B3 x3.length d3] 26)
    replace k1 := cell_later hb10 k1
    replace he := he.bs hb10
    replace ox1 := ox1.bs hb10
    replace ok1 := ok1.bs hb10
    replace od1 := od1.bs hb10
    replace od2 := od2.bs hb10
    replace oq3 := oq3.bs hb10
    replace oq4 := oq4.bs hb10
    replace ox3 := ox3.bs hb10
    replace ha := ha.up hb10
    replace T := bs T hb10
    clear hb10
    obtain ⟨Z3, hZ3⟩ : ∃ Z3, Z3 = ccC x3 k3 c3 := ⟨_, rfl⟩
    obtain ⟨R3, hR3⟩ : ∃ R3, R3 = ccR x3 k3 c3 := ⟨_, rfl⟩
    have hR340 : R3.length ≤ 40 := by rw [hR3]; exact Nat.le_trans (ccR_length _ _ _) hm3
    have HZ3 := Lib.hid hZ3
    clear hZ3
    have HR3 := Lib.hid hR3
    clear hR3
    go_wp2_with fail
    refine (CorrectColumn_any B3 d3 x3 k3 c3 _ ox3.rd (by omega) hc3).mono ?_
    rw [← HZ3.out, ← HR3.out]
    rintro e v11 ⟨Q5, e5, rfl, oq5, hb11⟩
    replace k1 := cell_later hb11 k1
    replace k3c := cell_later hb11 k3c
    replace he := he.bs hb11
    replace ox1 := ox1.bs hb11
    replace ok1 := ok1.bs hb11
    replace od1 := od1.bs hb11
    replace od2 := od2.bs hb11
    replace oq3 := oq3.bs hb11
    replace oq4 := oq4.bs hb11
    replace ox3 := ox3.bs hb11
    replace ha := ha.up hb11
    replace T := bs T hb11
    replace oq5 := Ob.of oq5
    have k5 := cell_new (w := v11) (cs := #[.slice Q5 R3.length e5]) (e := 26) (j := 0) (H := v11.heap.size) rfl rfl
    have hb12 := ba (b0 (v11)) (.cells #[.slice Q5 R3.length e5] 26)
    replace k1 := cell_later hb12 k1
    replace k3c := cell_later hb12 k3c
    replace he := he.bs hb12
    replace ox1 := ox1.bs hb12
    replace ok1 := ok1.bs hb12
    replace od1 := od1.bs hb12
    replace od2 := od2.bs hb12
    replace oq3 := oq3.bs hb12
    replace oq4 := oq4.bs hb12
    replace ox3 := ox3.bs hb12
    replace oq5 := oq5.bs hb12
    replace ha := ha.up hb12
    replace T := bs T hb12
    clear hb12
    go_wp2_with fail
    refine (spCorrectColumn_any B3 d3 x3 k3 c3 _ ox3.rd (by omega) hc3).mono ?_
    rw [← HZ3.out, ← HR3.out]
    rintro e v13 ⟨Q6, e6, rfl, oq6, hb13⟩
    replace k1 := cell_later hb13 k1
    replace k3c := cell_later hb13 k3c
    replace k5 := cell_later hb13 k5
    replace he := he.bs hb13
    replace ox1 := ox1.bs hb13
    replace ok1 := ok1.bs hb13
    replace od1 := od1.bs hb13
    replace od2 := od2.bs hb13
    replace oq3 := oq3.bs hb13
    replace oq4 := oq4.bs hb13
    replace ox3 := ox3.bs hb13
    replace oq5 := oq5.bs hb13
    replace ha := ha.up hb13
    replace T := bs T hb13
    replace oq6 := Ob.of oq6
    clear ox3 k3c
    have k6 := cell_new (w := v13) (cs := #[.slice Q6 R3.length e6]) (e := 26) (j := 0) (H := v13.heap.size) rfl rfl
    have hb14 := ba (b0 (v13)) (.cells #[.slice Q6 R3.length e6] 26)
    replace k1 := cell_later hb14 k1
    replace k5 := cell_later hb14 k5
    replace he := he.bs hb14
    replace ox1 := ox1.bs hb14
    replace ok1 := ok1.bs hb14
    replace od1 := od1.bs hb14
    replace od2 := od2.bs hb14
    replace oq3 := oq3.bs hb14
    replace oq4 := oq4.bs hb14
    replace oq5 := oq5.bs hb14
    replace oq6 := oq6.bs hb14
    replace ha := ha.up hb14
    replace T := bs T hb14
    clear hb14
    go_wp2_with fail
    refine (DrawProgramRuns_any A n0 c0 bs0 _ ha (by omega)).mono ?_
    rintro e v15 ⟨s4, hs4, rfl, hb15⟩
    replace k1 := cell_later hb15 k1
    replace k5 := cell_later hb15 k5
    replace k6 := cell_later hb15 k6
    replace he := he.bs hb15
    replace ox1 := ox1.bs hb15
    replace ok1 := ok1.bs hb15
    replace od1 := od1.bs hb15
    replace od2 := od2.bs hb15
    replace oq3 := oq3.bs hb15
    replace oq4 := oq4.bs hb15
    replace oq5 := oq5.bs hb15
    replace oq6 := oq6.bs hb15
    replace ha := ha.up hb15
    replace T := bs T hb15
    obtain ⟨T4, hT4⟩ : ∃ T4, T4 = bs_ (runsO s4) := ⟨_, rfl⟩
    have hT4s : T4.size ≤ 84 := by rw [hT4]; exact runsO_len hs4
    obtain ⟨b4, hb4'⟩ : ∃ b4, b4 = rrB (byt T4) := ⟨_, rfl⟩
    obtain ⟨U4, hU4⟩ : ∃ U4, U4 = rrS (byt T4) := ⟨_, rfl⟩
    have HKY := Lib.hid (show progB s4 = true → b4 = true ∧ U4 = s4 ∧ ¬ T4.size = 0 from fun h => by rw [hb4', hU4, hT4]; exact kd_yes h)
    have HKN := Lib.hid (show progB s4 = false → b4 = false ∧ T4.size = 0 from fun h => by rw [hb4', hT4]; exact kd_no h)
    have Hb4 := Lib.hid hb4'
    clear hb4'
    have HT4 := Lib.hid hT4
    clear hT4
    have HU4 := Lib.hid hU4
    clear hU4
    go_wp2_with fail
    refine (ProgramRuns_any s4 _ (by omega)).mono ?_
    rw [← HT4.out]
    rintro e v16 ⟨rfl, hb16⟩
    replace k1 := cell_later hb16 k1
    replace k5 := cell_later hb16 k5
    replace k6 := cell_later hb16 k6
    replace he := he.bs hb16
    replace ox1 := ox1.bs hb16
    replace ok1 := ok1.bs hb16
    replace od1 := od1.bs hb16
    replace od2 := od2.bs hb16
    replace oq3 := oq3.bs hb16
    replace oq4 := oq4.bs hb16
    replace oq5 := oq5.bs hb16
    replace oq6 := oq6.bs hb16
    replace ha := ha.up hb16
    replace T := bs T hb16
    go_wp2_with fail
    refine (ReadRuns_any T4 _ (by omega) he).mono ?_
    rw [← HU4.out, ← Hb4.out]
    rintro e v17 ⟨rfl, hb17⟩
    replace k1 := cell_later hb17 k1
    replace k5 := cell_later hb17 k5
    replace k6 := cell_later hb17 k6
    replace he := he.bs hb17
    replace ox1 := ox1.bs hb17
    replace ok1 := ok1.bs hb17
    replace od1 := od1.bs hb17
    replace od2 := od2.bs hb17
    replace oq3 := oq3.bs hb17
    replace oq4 := oq4.bs hb17
    replace oq5 := oq5.bs hb17
    replace oq6 := oq6.bs hb17
    replace ha := ha.up hb17
    replace T := bs T hb17
    go_wp2_with fail
    refine (DrawReadRuns_any A n0 c0 bs0 _ ha (by omega)).mono ?_
    rintro e v18 ⟨s5, hs5, rfl, hb18⟩
    replace k1 := cell_later hb18 k1
    replace k5 := cell_later hb18 k5
    replace k6 := cell_later hb18 k6
    replace he := he.bs hb18
    replace ox1 := ox1.bs hb18
    replace ok1 := ok1.bs hb18
    replace od1 := od1.bs hb18
    replace od2 := od2.bs hb18
    replace oq3 := oq3.bs hb18
    replace oq4 := oq4.bs hb18
    replace oq5 := oq5.bs hb18
    replace oq6 := oq6.bs hb18
    replace ha := ha.up hb18
    replace T := bs T hb18
    obtain ⟨b5, hb5⟩ : ∃ b5, b5 = rrB (byt s5) := ⟨_, rfl⟩
    obtain ⟨U5, hU5⟩ : ∃ U5, U5 = rrS (byt s5) := ⟨_, rfl⟩
    have Hb5 := Lib.hid hb5
    clear hb5
    have HU5 := Lib.hid hU5
    clear hU5
    go_wp2_with fail
    refine (ReadRuns_any s5 _ (by omega) he).mono ?_
    rw [← HU5.out, ← Hb5.out]
    rintro e v19 ⟨rfl, hb19⟩
    replace k1 := cell_later hb19 k1
    replace k5 := cell_later hb19 k5
    replace k6 := cell_later hb19 k6
    replace he := he.bs hb19
    replace ox1 := ox1.bs hb19
    replace ok1 := ok1.bs hb19
    replace od1 := od1.bs hb19
    replace od2 := od2.bs hb19
    replace oq3 := oq3.bs hb19
    replace oq4 := oq4.bs hb19
    replace oq5 := oq5.bs hb19
    replace oq6 := oq6.bs hb19
    replace ha := ha.up hb19
    replace T := bs T hb19
    clear he ha
    go_wp2_with fail
    refine (spReadRuns_any s5 _ (by omega)).mono ?_
    rw [← HU5.out, ← Hb5.out]
    rintro e v20 ⟨rfl, hb20⟩
    replace k1 := cell_later hb20 k1
    replace k5 := cell_later hb20 k5
    replace k6 := cell_later hb20 k6
    replace ox1 := ox1.bs hb20
    replace ok1 := ok1.bs hb20
    replace od1 := od1.bs hb20
    replace od2 := od2.bs hb20
    replace oq3 := oq3.bs hb20
    replace oq4 := oq4.bs hb20
    replace oq5 := oq5.bs hb20
    replace oq6 := oq6.bs hb20
    replace T := bs T hb20
    as_aux_lemma =>
      go_upto_region 18 with fail
      go_cut [184] (fun s184 wx => s184 = .bool false ∧ Below v20.heap.size v20 wx)
      case first =>
        as_aux_lemma =>
          have n1 : (Z1 != Z1) = false := bne_f rfl
          have n2 : (Z2 != Z2) = false := bne_f rfl
          have n3 : (Z3 != Z3) = false := bne_f rfl
          have n4 : (T4.toList != T4.toList) = false := lst_ne _
          have n5 : (U5.toList != U5.toList) = false := lst_ne _
          have n6 : (b5 != b5) = false := by cases b5 <;> rfl
          have hcc := HG1.out.trans HG2.out.symm
          have T0 := b0 v20
          go_wp2_with fail
          refine (spSameDeck_eq D1 D2 cd1 cd2 g1 g2 _ hcc od1.rd od2.rd (by omega)).mono ?_
          rintro e v21 ⟨rfl, hb21⟩
          replace k1 := cell_later hb21 k1
          replace k5 := cell_later hb21 k5
          replace k6 := cell_later hb21 k6
          replace ox1 := ox1.bs hb21
          replace ok1 := ok1.bs hb21
          replace od1 := od1.bs hb21
          replace od2 := od2.bs hb21
          replace oq3 := oq3.bs hb21
          replace oq4 := oq4.bs hb21
          replace oq5 := oq5.bs hb21
          replace oq6 := oq6.bs hb21
          replace T0 := bs T0 hb21
          go_wp2_with fail
          refine (f6ints_eq L2.length Q3 Q4 e3 e4 L2 _ rfl oq3.rd oq4.rd (by omega)).mono ?_
          rintro e v22 ⟨rfl, hb22⟩
          replace k1 := cell_later hb22 k1
          replace k5 := cell_later hb22 k5
          replace k6 := cell_later hb22 k6
          replace ox1 := ox1.bs hb22
          replace ok1 := ok1.bs hb22
          replace od1 := od1.bs hb22
          replace od2 := od2.bs hb22
          replace oq3 := oq3.bs hb22
          replace oq4 := oq4.bs hb22
          replace oq5 := oq5.bs hb22
          replace oq6 := oq6.bs hb22
          replace T0 := bs T0 hb22
          go_wp2_with fail
          refine (spSameCard_eq Q5 Q6 e5 e6 R3 R3 _ rfl oq5.rd oq6.rd (by omega)).mono ?_
          rintro e v23 ⟨rfl, hb23⟩
          replace k1 := cell_later hb23 k1
          replace k5 := cell_later hb23 k5
          replace k6 := cell_later hb23 k6
          replace ox1 := ox1.bs hb23
          replace ok1 := ok1.bs hb23
          replace od1 := od1.bs hb23
          replace od2 := od2.bs hb23
          replace oq3 := oq3.bs hb23
          replace oq4 := oq4.bs hb23
          replace oq5 := oq5.bs hb23
          replace oq6 := oq6.bs hb23
          replace T0 := bs T0 hb23
          go_wp2_with fail
          refine (spProgramRuns_any s4 _ hs4).mono ?_
          rw [← HT4.out]
          rintro e v24 ⟨rfl, hb24⟩
          replace k1 := cell_later hb24 k1
          replace k5 := cell_later hb24 k5
          replace k6 := cell_later hb24 k6
          replace ox1 := ox1.bs hb24
          replace ok1 := ok1.bs hb24
          replace od1 := od1.bs hb24
          replace od2 := od2.bs hb24
          replace oq3 := oq3.bs hb24
          replace oq4 := oq4.bs hb24
          replace oq5 := oq5.bs hb24
          replace oq6 := oq6.bs hb24
          replace T0 := bs T0 hb24
          cases hp : progB s4 with
          | true =>
            obtain ⟨q1, q2, q3⟩ := HKY.out hp
            subst q1 q2
            have n7 : (U4.toList != U4.toList) = false := lst_ne _
            have n8 := em_f q3
            go_wp2
            go_meet
            exact ⟨rfl, T0⟩
          | false =>
            obtain ⟨q1, q3⟩ := HKN.out hp
            subst q1
            have n8 := em_t q3
            go_wp2
            go_meet
            exact ⟨rfl, T0⟩
      case rest =>
        as_aux_lemma =>
          obtain ⟨rfl, hbx⟩ := hcut
          obtain ⟨vx, hvx⟩ : ∃ x : World, x = wc := ⟨_, rfl⟩
          subst hvx
          clear oq3 oq4 od2 oq6 k6 HG2
          replace k1 := cell_later hbx k1
          replace k5 := cell_later hbx k5
          replace ox1 := ox1.bs hbx
          replace ok1 := ok1.bs hbx
          replace od1 := od1.bs hbx
          replace oq5 := oq5.bs hbx
          replace T := bs T hbx
          clear hbx
          go_upto_if 186 with fail
          go_cut [34, 35] (fun _ _ wx => Below vx.heap.size vx wx)
          case first =>
            as_aux_lemma =>
              by_cases h3 : Z3 = 0
              · have j3 : (Z3 == 0) = true := beq_t h3
                obtain ⟨_, q1, q2, q3, q4⟩ := ccC_zero (show ccC x3 k3 c3 = 0 by rw [← HZ3.out]; exact h3)
                obtain ⟨k, rfl⟩ := Int.eq_ofNat_of_zero_le q1
                have hk : k < x3.length := by omega
                have hlt : k < R3.length := by rw [HR3.out, q4, List.length_set]; exact hk
                have hv : R3[k] = codeV c3.toNat := by
                  have : R3 = x3.set k (codeV c3.toNat) := by rw [HR3.out, q4]; rfl
                  simp only [this, List.getElem_set_self]
                obtain ⟨b, off, hQ, _, hc⟩ := oq5.rd.at_ hlt
                have dc := hc k _ (ints_get _ k hlt)
                rw [hv] at dc
                obtain ⟨M, hM⟩ : ∃ M, M = codeV c3.toNat := ⟨_, rfl⟩
                rw [← hM] at dc
                have HC := Lib.hid (show ∀ W : World, Calls Tryz.prog 23 #[.int .u8 (c3.toNat : Int)] W fun e w' => e = .returned (.tuple #[.int .i64 M, .bool true]) ∧ W = w' from fun W => by
                  have := CodeOf_any c3.toNat (by have := c3.toNat_lt; omega) W
                  rw [codeO_ch q3, show isCh c3.toNat = true from q3, ← hM] at this
                  exact this)
                have n1 : (M != M) = false := bne_f rfl
                have z1 : (decide ((k : Int) < 0)) = false := decide_eq_false (by omega)
                subst hQ
                clear hM hv h3 q1 q2 q3 q4 hc
                go_wp2_with fail
                refine (HC.out _).mono ?_
                rintro e vy ⟨rfl, rfl⟩
                go_wp2
                go_meet
                exact b0 _
              · have j3 : (Z3 == 0) = false := beq_f h3
                go_wp2
                go_meet
                exact b0 _
          case rest =>
            as_aux_lemma =>
              obtain ⟨vz, hvz⟩ : ∃ x : World, x = wc := ⟨_, rfl⟩
              subst hvz
              have hbz := hcut
              clear hcut
              clear oq5 k5
              replace k1 := cell_later hbz k1
              replace ox1 := ox1.bs hbz
              replace ok1 := ok1.bs hbz
              replace od1 := od1.bs hbz
              replace T := bs T hbz
              clear hbz
              by_cases h1 : Z1 = 0
              · have j1 : (Z1 != 0) = false := bne_f h1
                have HP := Lib.hid (HPA.out h1)
                have j2 : ((g1.length : Int) == (t1.length : Int)) = true := beq_t (by have := congrArg List.length HG1.out; rw [cards_length, HP.out.2.2] at this; omega)
                clear h1
                go_wp2_with fail
                refine (VerifyAll_w s1 B1 d1 x1 D1 cd1 g1 L1 K1 ck1 t1 _ (by omega) ox1.rd (by omega) hc1 od1.rd HG1.out (by omega) cg1 ok1.rd (by omega) (fun t ht => Nat.le_trans (h22 t ht) (by omega))).mono ?_
                rw [HP.out.1, HP.out.2.1]
                rintro e vw ⟨Q7, e7, rfl, oq7, hbw⟩
                replace T := bs T hbw
                go_wp2
                go_ret
                exact ⟨rfl, T⟩
              · have j1 : (Z1 != 0) = true := bne_t h1
                clear h1
                go_wp2
                go_ret
                exact ⟨rfl, T⟩

/-! ### the row -/
theorem met7 (os : Os) (args : Array Value) : laidMetH Tryz.prog laid7 ((World.laidAll Tryz.prog os laid7).forCall (fun _ _ => 0) ⟨#[], args, []⟩).memory := by
  rw [MakeChecks.laidMetH_plain _ _ _ (by kernel_rfl)]
  exact laidMet_laidAll _ (by kernel_rfl) (by kernel_rfl)

set_option maxRecDepth 100000 in
theorem lawKeyedDecks_lifted (os : Os) (started : os.Started) (H : Type) (enc : TypeId × Value → H) :
    ReturnsInHanded {} Tryz.checked os 3 .any (fun w args => (Rows.fnKeyedDecksSpec.pre enc Tryz.prog Tryz.f3 [] false w args ∧ laidMetH Tryz.prog laid7 w) ∧ sizedMet enc Tryz.prog Tryz.f3 (OpenSpec.ofChange Rows.fnKeyedDecksSpec) false w args)
      (Rows.fnKeyedDecksSpec.post enc Tryz.prog Tryz.f3 false true false false) := by
  refine returns_and_shaped (C := Tryz.checked) (X := fun w _ => laidMetH Tryz.prog laid7 w) (fun _ _ _ hh h => h.of_heap hh) lawOwn started (by kernel_rfl) Tryz.func3
    (ChangeSpec.witness_shaped (enc := enc) (C := Tryz.checked) (os := os) (X := fun w _ => laidMetH Tryz.prog laid7 w) false (World.laidAll Tryz.prog os laid7) #[.slice none 0 0] 8 (World.laidAll_os _ _ _) (World.shaped_of_ZipB (by kernel_rfl) (by kernel_rfl)) (by kernel_rfl) (by kernel_rfl) (by kernel_rfl) (met7 os _)) ?_
  intro W base args ds gs before hval0 hW hL hsh
  have hval : ∀ (j : Nat) t v, Tryz.f3.params[j]? = some t → args[j]? = some v → Value.okWide Tryz.prog W .any base t v := hval0
  clear hval0
  have hW0 : DataW.Whole enc Tryz.prog Tryz.f3.params.toList Rows.fnKeyedDecksSpec.vars false W args.toList ds gs before := hW
  clear hW
  have hW := hW0
  obtain ⟨p, q, hA, hV, _, _, _⟩ := hW
  rw [Tryz.params3] at hA hval
  obtain ⟨v0, vs0, d0, ds0, p0, q0, hargs, rfl, rfl, h0, hA0⟩ := trodAll_cons hA
  obtain ⟨rfl, rfl, rfl⟩ := trodAll_nil hA0
  have hargs2 : args = #[v0] := by cases args; simp_all
  clear hargs
  subst hargs2
  obtain ⟨A0, c0, bs0, rfl, hc0, hm0, r0⟩ := in_bytes Tryz.underlying22 Tryz.underlying5 (by kernel_rfl) (hval 0 22 v0 rfl rfl) h0
  have henv := env_of hL hsh
  refine (lawKeyedDecks_any A0 _ c0 bs0 W r0 henv).mono fun e W' ⟨he, hb⟩ => ⟨_, he, ?_⟩
  exact post_law (f := Tryz.f3) (s := Rows.fnKeyedDecksSpec) hW0 rfl (tb := 4) rfl Tryz.underlying4 rfl lawLaid (by kernel_rfl) hb

theorem lawKeyedDecks_holds : Rows.FnKeyedDecksSaid :=
  OpenClaim.holds_of_wide 3 Tryz.f3 rfl rfl rfl rfl rfl rfl rfl ⟨rfl, rfl, rfl, rfl, rfl⟩ rfl rfl rfl rfl rfl (by kernel_rfl) Tryz.func3 (by kernel_rfl)
    (of_decide_eq_true (by kernel_rfl)) (by unfold Func.isWrapper; first | (rw [if_pos (by decide +kernel)]; kernel_rfl) | (rw [if_neg (by decide +kernel)]; exact ⟨rfl, rfl⟩))
    (fun os started H enc _ => lawKeyedDecks_lifted os started H enc)

theorem fnKeyedDecks_holds : Rows.FnKeyedDecksCardSaid :=
  Claim7.holds_tied_plain_at .later [] [.data, .data, .data, .data, .sentinel, .sentinel, .pinned] true (true, "77fb94e3a88e9ca815b57940f8b9e2578b13ffa2d580a2544575bffd87fb24b2") true
    lawKeyedDecks_holds (fun _ h => by cases h) (by kernel_rfl) (fun _ h => by cases h) fnKeyedDecks_row_tie rfl ⟨rfl, rfl⟩ (by kernel_rfl) rfl
    (fun f fn hf hfn => by
      obtain rfl : f = 3 := Option.some.inj ((show Tryz.prog.funcNamed "loop.example/g01012/laws.FnKeyedDecks" = some 3 by kernel_rfl).symm.trans hf) |>.symm
      obtain rfl : fn = Tryz.f3 := (Option.some.inj (Tryz.func3.symm.trans hfn)).symm
      exact ⟨by kernel_rfl, fun j t ht => by
        rw [Tryz.params3] at ht
        have hm : t ∈ [22] := by simpa using Array.mem_of_getElem? ht
        have hall : ([22].all fun u => !Tryz.prog.wantsStandIn u) = true := by kernel_rfl
        exact (show Tryz.prog.wantsStandIn t = false by simpa using List.all_eq_true.1 hall t hm)⟩)
    (by kernel_rfl)
#print axioms fnKeyedDecks_holds
end Go.Proofs.YtkmejkeanmjfbaaGreatDoor
