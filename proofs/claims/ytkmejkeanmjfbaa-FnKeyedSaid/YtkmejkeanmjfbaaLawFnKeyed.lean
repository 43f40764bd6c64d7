/- The law FnKeyed answers true at every input, and its argument stays as it was; conditions: none. -/
import Derived.Test.YtkmejkeanmjfbaaRows
import Derived.Test.YtkmejkeanmjfbaaLawBase
import Derived.Test.YtkmejkeanmjfbaaOpenBytes
import Derived.Test.YtkmejkeanmjfbaaDamLaw
import Derived.Test.YtkmejkeanmjfbaaKeyForAll
import Derived.Test.YtkmejkeanmjfbaaKyDrawAll
namespace Go.Proofs.Ytkmejkeanmjfbaa
open Go.RowKit Go.ChangeShapes Go.WideShapes Go.ChangeAt

theorem kfS_size {s : ByteArray} {xs ys : List Int} : (kfS s xs ys).size ≤ s.size := by
  unfold kfS
  split
  · rw [kfT_size]
    exact keysN_le s
  · exact Nat.zero_le _
theorem lst_ne (a : List UInt8) : (a != a) = false := by simp
theorem lst_eq (a : List UInt8) : (a == a) = true := by simp

set_option maxRecDepth 100000 in
set_option maxHeartbeats 16000000 in
theorem lawKeyed_any (A : Option Addr) (n0 c0 : Nat) (bs0 : List UInt8) (w : World) (ha : Rd w w.heap.size 1 A n0 (byts bs0)) :
    Calls Try.prog 3 #[.slice A n0 c0] w fun e w' => e = .returned (.bool true) ∧ Below w.heap.size w w' := by
  by_cases hn : 4096 < n0
  · go_enter Try.func3, Try.ntmps3
    go_wp2_with fail
    refine (f6big_yes A n0 c0 _ hn).mono ?_; rintro e w1 ⟨rfl, rfl⟩
    go_wp2
    go_ret
    exact ⟨rfl, b0 _⟩
  · go_enter Try.func3, Try.ntmps3
    go_wp2_with fail
    refine (f6big_no A n0 c0 _ hn).mono ?_; rintro e w1 ⟨rfl, rfl⟩
    go_wp2_with fail
    refine (DrawPunchByProgram_any A n0 c0 bs0 _ ha (by omega)).mono ?_
    rintro e v1 ⟨s1, B1, m1, d1, x1, t1, hs1, rfl, hx1, hm1, ht1, ox1, hb1⟩
    replace ha := ha.up hb1
    subst hx1
    have hc1 := (own_cap ox1.1).1
    have T := hb1
    have k1 := cell_new (w := v1) (cs := #[.slice B1 x1.length d1]) (e := 26) (j := 0) (H := v1.heap.size) rfl rfl
    have hb2 := ba (b0 (v1)) (.cells #[.slice B1 x1.length d1] 26)
    replace ox1 := ox1.bs hb2
    replace ha := ha.up hb2
    replace T := bs T hb2
    clear hb2
    obtain ⟨R1, hR1⟩ : ∃ R1, R1 = ppR s1 x1 t1 := ⟨_, rfl⟩
    obtain ⟨Z1, hZ1⟩ : ∃ Z1, Z1 = ppC s1 [x1] t1 := ⟨_, rfl⟩
    have hR20 : R1.length ≤ 20 := by rw [hR1]; exact ppR_length _ _ _
    have HPR := Lib.hid (show Z1 = 0 → ppC s1 [x1, R1] t1 = 0 ∧ vcV s1 x1 R1 t1 = -1 ∧ kfC s1 x1 R1 = 0 ∧ kfS s1 x1 R1 = t1 ∧ t1.size = keysN s1 ∧ progB s1 = true from fun h => by rw [hR1]; exact punched_right (by rw [← hZ1]; exact h))
    have HR1 := Lib.hid hR1
    have HZ1 := Lib.hid hZ1
    clear hR1 hZ1
    go_wp2_with fail
    refine (PunchByProgram_any s1 t1 B1 d1 x1 _ (by omega) ox1.rd (by omega) hc1 (by omega)).mono ?_
    rw [← HR1.out, ← HZ1.out]
    rintro e v3 ⟨Q1, e1, rfl, oq1, hb3⟩
    replace k1 := cell_later hb3 k1
    replace ox1 := ox1.bs hb3
    replace ha := ha.up hb3
    replace T := bs T hb3
    replace oq1 := Ob.of oq1
    have hq1 := (own_cap oq1.1).1
    have k2 := cell_new (w := v3) (cs := #[.slice Q1 R1.length e1]) (e := 26) (j := 0) (H := v3.heap.size) rfl rfl
    have hb4 := ba (b0 (v3)) (.cells #[.slice Q1 R1.length e1] 26)
    replace k1 := cell_later hb4 k1
    replace ox1 := ox1.bs hb4
    replace oq1 := oq1.bs hb4
    replace ha := ha.up hb4
    replace T := bs T hb4
    clear hb4
    go_wp2_with fail
    refine (spPunchByProgram_any s1 t1 B1 d1 x1 _ (by omega) ox1.rd (by omega) hc1 (by omega)).mono ?_
    rw [← HR1.out, ← HZ1.out]
    rintro e v5 ⟨Q2, e2, rfl, oq2, hb5⟩
    replace k1 := cell_later hb5 k1
    replace k2 := cell_later hb5 k2
    replace ox1 := ox1.bs hb5
    replace oq1 := oq1.bs hb5
    replace ha := ha.up hb5
    replace T := bs T hb5
    replace oq2 := Ob.of oq2
    have k3 := cell_new (w := v5) (cs := #[.slice Q2 R1.length e2]) (e := 26) (j := 0) (H := v5.heap.size) rfl rfl
    have hb6 := ba (b0 (v5)) (.cells #[.slice Q2 R1.length e2] 26)
    replace k1 := cell_later hb6 k1
    replace k2 := cell_later hb6 k2
    replace ox1 := ox1.bs hb6
    replace oq1 := oq1.bs hb6
    replace oq2 := oq2.bs hb6
    replace ha := ha.up hb6
    replace T := bs T hb6
    clear hb6
    go_wp2_with fail
    refine (DrawKeysFor_any A n0 c0 bs0 _ ha (by omega)).mono ?_
    rintro e v7 ⟨s2, B2, m2, d2, x2, C2, g2, f2, y2, hs2, rfl, hx2, hm2, hy2, hg2, ox2, oy2, hb7⟩
    replace k1 := cell_later hb7 k1
    replace k2 := cell_later hb7 k2
    replace k3 := cell_later hb7 k3
    replace ox1 := ox1.bs hb7
    replace oq1 := oq1.bs hb7
    replace oq2 := oq2.bs hb7
    replace ha := ha.up hb7
    replace T := bs T hb7
    subst hx2 hy2
    have hc2 := (own_cap ox2.1).1
    have hd2 := (own_cap oy2.1).1
    have k4 := cell_new (w := v7) (cs := #[.slice B2 x2.length d2]) (e := 26) (j := 0) (H := v7.heap.size) rfl rfl
    have hb8 := ba (b0 (v7)) (.cells #[.slice B2 x2.length d2] 26)
    replace k1 := cell_later hb8 k1
    replace k2 := cell_later hb8 k2
    replace k3 := cell_later hb8 k3
    replace ox1 := ox1.bs hb8
    replace oq1 := oq1.bs hb8
    replace oq2 := oq2.bs hb8
    replace ox2 := ox2.bs hb8
    replace oy2 := oy2.bs hb8
    replace ha := ha.up hb8
    replace T := bs T hb8
    clear hb8
    have k5 := cell_new (w := (v7).alloc (.cells #[.slice B2 x2.length d2] 26)) (cs := #[.slice C2 y2.length f2]) (e := 26) (j := 0) (H := v7.heap.size + 1) (by simp) rfl
    have hb9 := ba (b0 ((v7).alloc (.cells #[.slice B2 x2.length d2] 26))) (.cells #[.slice C2 y2.length f2] 26)
    replace k1 := cell_later hb9 k1
    replace k2 := cell_later hb9 k2
    replace k3 := cell_later hb9 k3
    replace k4 := cell_later hb9 k4
    replace ox1 := ox1.bs hb9
    replace oq1 := oq1.bs hb9
    replace oq2 := oq2.bs hb9
    replace ox2 := ox2.bs hb9
    replace oy2 := oy2.bs hb9
    replace ha := ha.up hb9
    replace T := bs T hb9
    clear hb9
    obtain ⟨S2, hS2⟩ : ∃ S2, S2 = kfS s2 x2 y2 := ⟨_, rfl⟩
    obtain ⟨Z2, hZ2⟩ : ∃ Z2, Z2 = kfC s2 x2 y2 := ⟨_, rfl⟩
    have hS21 : S2.size ≤ s2.size := by rw [hS2]; exact kfS_size
    have HKA := Lib.hid (show Z2 = 0 → ppC s2 [x2] S2 = 0 ∧ ppR s2 x2 S2 = y2 from fun h => by rw [hS2]; exact keys_again (by rw [← hZ2]; exact h))
    have HS2 := Lib.hid hS2
    have HZ2 := Lib.hid hZ2
    clear hS2 hZ2
    go_wp2_with fail
    refine (KeysFor_any s2 B2 d2 x2 C2 f2 y2 _ (by omega) ox2.rd (by omega) hc2 oy2.rd (by omega) hd2).mono ?_
    rw [← HS2.out, ← HZ2.out]
    rintro e v10 ⟨rfl, hb10⟩
    replace k1 := cell_later hb10 k1
    replace k2 := cell_later hb10 k2
    replace k3 := cell_later hb10 k3
    replace k4 := cell_later hb10 k4
    replace k5 := cell_later hb10 k5
    replace ox1 := ox1.bs hb10
    replace oq1 := oq1.bs hb10
    replace oq2 := oq2.bs hb10
    replace ox2 := ox2.bs hb10
    replace oy2 := oy2.bs hb10
    replace ha := ha.up hb10
    replace T := bs T hb10
    go_wp2_with fail
    refine (spKeysFor_any s2 B2 d2 x2 C2 f2 y2 _ (by omega) ox2.rd (by omega) hc2 oy2.rd (by omega) hd2).mono ?_
    rw [← HS2.out, ← HZ2.out]
    rintro e v11 ⟨rfl, hb11⟩
    replace k1 := cell_later hb11 k1
    replace k2 := cell_later hb11 k2
    replace k3 := cell_later hb11 k3
    replace k4 := cell_later hb11 k4
    replace k5 := cell_later hb11 k5
    replace ox1 := ox1.bs hb11
    replace oq1 := oq1.bs hb11
    replace oq2 := oq2.bs hb11
    replace ox2 := ox2.bs hb11
    replace oy2 := oy2.bs hb11
    replace ha := ha.up hb11
    replace T := bs T hb11
    go_wp2_with fail
    refine (DrawVerifyCard_any A n0 c0 bs0 _ ha (by omega)).mono ?_
    rintro e v12 ⟨s3, B3, m3, d3, x3, C3, g3, f3, y3, t3, hs3, rfl, hx3, hm3, hy3, hg3, ht3, ox3, oy3, hb12⟩
    replace k1 := cell_later hb12 k1
    replace k2 := cell_later hb12 k2
    replace k3 := cell_later hb12 k3
    replace k4 := cell_later hb12 k4
    replace k5 := cell_later hb12 k5
    replace ox1 := ox1.bs hb12
    replace oq1 := oq1.bs hb12
    replace oq2 := oq2.bs hb12
    replace ox2 := ox2.bs hb12
    replace oy2 := oy2.bs hb12
    replace ha := ha.up hb12
    replace T := bs T hb12
    subst hx3 hy3
    have hc3 := (own_cap ox3.1).1
    have hd3 := (own_cap oy3.1).1
    have k6 := cell_new (w := v12) (cs := #[.slice B3 x3.length d3]) (e := 26) (j := 0) (H := v12.heap.size) rfl rfl
    have hb13 := ba (b0 (v12)) (.cells #[.slice B3 x3.length d3] 26)
    replace k1 := cell_later hb13 k1
    replace k2 := cell_later hb13 k2
    replace k3 := cell_later hb13 k3
    replace k4 := cell_later hb13 k4
    replace k5 := cell_later hb13 k5
    replace ox1 := ox1.bs hb13
    replace oq1 := oq1.bs hb13
    replace oq2 := oq2.bs hb13
    replace ox2 := ox2.bs hb13
    replace oy2 := oy2.bs hb13
    replace ox3 := ox3.bs hb13
    replace oy3 := oy3.bs hb13
    replace ha := ha.up hb13
    replace T := bs T hb13
    clear hb13
    have k7 := cell_new (w := (v12).alloc (.cells #[.slice B3 x3.length d3] 26)) (cs := #[.slice C3 y3.length f3]) (e := 26) (j := 0) (H := v12.heap.size + 1) (by simp) rfl
    have hb14 := ba (b0 ((v12).alloc (.cells #[.slice B3 x3.length d3] 26))) (.cells #[.slice C3 y3.length f3] 26)
    replace k1 := cell_later hb14 k1
    replace k2 := cell_later hb14 k2
    replace k3 := cell_later hb14 k3
    replace k4 := cell_later hb14 k4
    replace k5 := cell_later hb14 k5
    replace k6 := cell_later hb14 k6
    replace ox1 := ox1.bs hb14
    replace oq1 := oq1.bs hb14
    replace oq2 := oq2.bs hb14
    replace ox2 := ox2.bs hb14
    replace oy2 := oy2.bs hb14
    replace ox3 := ox3.bs hb14
    replace oy3 := oy3.bs hb14
    replace ha := ha.up hb14
    replace T := bs T hb14
    clear hb14
    obtain ⟨V3, hV3⟩ : ∃ V3, V3 = vcV s3 x3 y3 t3 := ⟨_, rfl⟩
    obtain ⟨Z3, hZ3⟩ : ∃ Z3, Z3 = ppC s3 [x3, y3] t3 := ⟨_, rfl⟩
    have HV3 := Lib.hid hV3
    have HZ3 := Lib.hid hZ3
    clear hV3 hZ3
    go_wp2_with fail
    refine (VerifyCard_any s3 t3 B3 d3 x3 C3 f3 y3 _ (by omega) ox3.rd (by omega) hc3 oy3.rd (by omega) hd3 (by omega)).mono ?_
    rw [← HV3.out, ← HZ3.out]
    rintro e v15 ⟨rfl, hb15⟩
    replace k1 := cell_later hb15 k1
    replace k2 := cell_later hb15 k2
    replace k3 := cell_later hb15 k3
    replace k4 := cell_later hb15 k4
    replace k5 := cell_later hb15 k5
    replace k6 := cell_later hb15 k6
    replace k7 := cell_later hb15 k7
    replace ox1 := ox1.bs hb15
    replace oq1 := oq1.bs hb15
    replace oq2 := oq2.bs hb15
    replace ox2 := ox2.bs hb15
    replace oy2 := oy2.bs hb15
    replace ox3 := ox3.bs hb15
    replace oy3 := oy3.bs hb15
    replace ha := ha.up hb15
    replace T := bs T hb15
    go_wp2_with fail
    refine (spVerifyCard_any s3 t3 B3 d3 x3 C3 f3 y3 _ (by omega) ox3.rd (by omega) hc3 oy3.rd (by omega) hd3 (by omega)).mono ?_
    rw [← HV3.out, ← HZ3.out]
    rintro e v16 ⟨rfl, hb16⟩
    replace k1 := cell_later hb16 k1
    replace k2 := cell_later hb16 k2
    replace k3 := cell_later hb16 k3
    replace k4 := cell_later hb16 k4
    replace k5 := cell_later hb16 k5
    replace k6 := cell_later hb16 k6
    replace k7 := cell_later hb16 k7
    replace ox1 := ox1.bs hb16
    replace oq1 := oq1.bs hb16
    replace oq2 := oq2.bs hb16
    replace ox2 := ox2.bs hb16
    replace oy2 := oy2.bs hb16
    replace ox3 := ox3.bs hb16
    replace oy3 := oy3.bs hb16
    replace ha := ha.up hb16
    replace T := bs T hb16
    obtain ⟨N4, hN4⟩ : ∃ N4, N4 = knV s1 := ⟨_, rfl⟩
    obtain ⟨Z4, hZ4⟩ : ∃ Z4, Z4 = knC s1 := ⟨_, rfl⟩
    have HN4 := Lib.hid hN4
    have HZ4 := Lib.hid hZ4
    clear hN4 hZ4
    go_wp2_with fail
    refine (KeysNeeded_any s1 _ (by omega)).mono ?_
    rw [← HN4.out, ← HZ4.out]
    rintro e vq ⟨rfl, rfl⟩
    go_wp2_with fail
    refine (spKeysNeeded_any s1 _ (by omega)).mono ?_
    rw [← HN4.out, ← HZ4.out]
    rintro e vq ⟨rfl, rfl⟩
    go_wp2_with fail
    refine (DrawStrokesSaved_any A n0 c0 bs0 _ ha (by omega)).mono ?_
    rintro e v17 ⟨s5, n5, hs5, rfl, hb17⟩
    replace k1 := cell_later hb17 k1
    replace k2 := cell_later hb17 k2
    replace k3 := cell_later hb17 k3
    replace k4 := cell_later hb17 k4
    replace k5 := cell_later hb17 k5
    replace ox1 := ox1.bs hb17
    replace oq1 := oq1.bs hb17
    replace oq2 := oq2.bs hb17
    replace ox2 := ox2.bs hb17
    replace oy2 := oy2.bs hb17
    replace ha := ha.up hb17
    replace T := bs T hb17
    obtain ⟨N5, hN5⟩ : ∃ N5, N5 = ssV s5 n5 := ⟨_, rfl⟩
    obtain ⟨Z5, hZ5⟩ : ∃ Z5, Z5 = ssC s5 n5 := ⟨_, rfl⟩
    have HN5 := Lib.hid hN5
    have HZ5 := Lib.hid hZ5
    clear hN5 hZ5
    go_wp2_with fail
    refine (StrokesSaved_any s5 n5 _ (by omega)).mono ?_
    rw [← HN5.out, ← HZ5.out]
    rintro e vq ⟨rfl, rfl⟩
    go_wp2_with fail
    refine (spStrokesSaved_any s5 n5 _ (by omega)).mono ?_
    rw [← HN5.out, ← HZ5.out]
    rintro e vq ⟨rfl, rfl⟩
    have n1 : (Z1 != Z1) = false := bne_f rfl
    have n2 : (Z2 != Z2) = false := bne_f rfl
    have n3 : (S2.toList != S2.toList) = false := lst_ne _
    have n4 : (Z3 != Z3) = false := bne_f rfl
    have n5' : (V3 != V3) = false := bne_f rfl
    have n6 : (Z4 != Z4) = false := bne_f rfl
    have n7 : (N4 != N4) = false := bne_f rfl
    have n8 : (Z5 != Z5) = false := bne_f rfl
    have n9 : (N5 != N5) = false := bne_f rfl
    obtain ⟨G6, hG6⟩ : ∃ G6, G6 = progB s1 := ⟨_, rfl⟩
    have HG6 := Lib.hid hG6
    have n10 : (G6 != G6) = false := by cases G6 <;> rfl
    clear hG6
    go_wp2_with fail
    refine (spSameCard_eq Q1 Q2 e1 e2 R1 R1 _ rfl oq1.rd oq2.rd (by omega)).mono ?_
    rintro e v18 ⟨rfl, hb18⟩
    replace k1 := cell_later hb18 k1
    replace k2 := cell_later hb18 k2
    replace k3 := cell_later hb18 k3
    replace k4 := cell_later hb18 k4
    replace k5 := cell_later hb18 k5
    replace ox1 := ox1.bs hb18
    replace oq1 := oq1.bs hb18
    replace oq2 := oq2.bs hb18
    replace ox2 := ox2.bs hb18
    replace oy2 := oy2.bs hb18
    replace ha := ha.up hb18
    replace T := bs T hb18
    go_wp2_with fail
    refine (ValidProgram_any s1 _ (by omega)).mono ?_
    rw [← HG6.out]
    rintro e vq ⟨rfl, rfl⟩
    go_wp2_with fail
    refine (spValidProgram_any s1 _ (by omega)).mono ?_
    rw [← HG6.out]
    rintro e vq ⟨rfl, rfl⟩
    clear n1 n2 n3 n4 n5' n6 n7 n8 n9 n10
    by_cases hz2 : Z2 = 0
    · have j0 : (Z2 == 0) = true := beq_t hz2
      have HK := Lib.hid (HKA.out hz2)
      clear hz2
      go_wp2_with fail
      refine (PunchByProgram_any s2 S2 B2 d2 x2 _ (by omega) ox2.rd (by omega) hc2 (by omega)).mono ?_
      rw [HK.out.1, HK.out.2]
      rintro e v19 ⟨Q5, e5, rfl, oq5, hb19⟩
      replace k1 := cell_later hb19 k1
      replace k2 := cell_later hb19 k2
      replace k3 := cell_later hb19 k3
      replace k4 := cell_later hb19 k4
      replace k5 := cell_later hb19 k5
      replace ox1 := ox1.bs hb19
      replace oq1 := oq1.bs hb19
      replace oq2 := oq2.bs hb19
      replace ox2 := ox2.bs hb19
      replace oy2 := oy2.bs hb19
      replace ha := ha.up hb19
      replace T := bs T hb19
      replace oq5 := Ob.of oq5
      clear j0
      have k8 := cell_new (w := v19) (cs := #[.slice Q5 y2.length e5]) (e := 26) (j := 0) (H := v19.heap.size) rfl rfl
      have hb20 := ba (b0 (v19)) (.cells #[.slice Q5 y2.length e5] 26)
      replace k1 := cell_later hb20 k1
      replace k2 := cell_later hb20 k2
      replace k3 := cell_later hb20 k3
      replace k4 := cell_later hb20 k4
      replace k5 := cell_later hb20 k5
      replace ox1 := ox1.bs hb20
      replace oq1 := oq1.bs hb20
      replace oq2 := oq2.bs hb20
      replace ox2 := ox2.bs hb20
      replace oy2 := oy2.bs hb20
      replace oq5 := oq5.bs hb20
      replace ha := ha.up hb20
      replace T := bs T hb20
      clear hb20
      go_wp2_with fail
      refine (spSameCard_eq Q5 C2 e5 f2 y2 y2 _ rfl oq5.rd oy2.rd (by omega)).mono ?_
      rintro e v21 ⟨rfl, hb21⟩
      replace k1 := cell_later hb21 k1
      replace k2 := cell_later hb21 k2
      replace k3 := cell_later hb21 k3
      replace k4 := cell_later hb21 k4
      replace k5 := cell_later hb21 k5
      replace k8 := cell_later hb21 k8
      replace ox1 := ox1.bs hb21
      replace oq1 := oq1.bs hb21
      replace oq2 := oq2.bs hb21
      replace ox2 := ox2.bs hb21
      replace oy2 := oy2.bs hb21
      replace oq5 := oq5.bs hb21
      replace ha := ha.up hb21
      replace T := bs T hb21
      by_cases hz1 : Z1 = 0
      · have j1 : (Z1 != 0) = false := bne_f hz1
        have HP := Lib.hid (HPR.out hz1)
        clear hz1
        go_wp2_with fail
        refine (VerifyCard_any s1 t1 B1 d1 x1 Q1 e1 R1 _ (by omega) ox1.rd (by omega) hc1 oq1.rd (by omega) hq1 (by omega)).mono ?_
        rw [HP.out.1, HP.out.2.1]
        rintro e u1 ⟨rfl, hu1⟩
        replace k1 := cell_later hu1 k1
        replace k2 := cell_later hu1 k2
        replace ox1 := ox1.bs hu1
        replace oq1 := oq1.bs hu1
        replace T := bs T hu1
        go_wp2_with fail
        refine (KeysFor_any s1 B1 d1 x1 Q1 e1 R1 _ (by omega) ox1.rd (by omega) hc1 oq1.rd (by omega) hq1).mono ?_
        rw [HP.out.2.2.1, HP.out.2.2.2.1]
        rintro e u2 ⟨rfl, hu2⟩
        replace T := bs T hu2
        have j2 := lst_eq t1.toList
        have j3 : ((t1.size : Int) == N4) = true := beq_t (by rw [HN4.out, HP.out.2.2.2.2.1]; unfold knV; rw [if_pos HP.out.2.2.2.2.2])
        go_wp2
        go_ret
        exact ⟨rfl, T⟩
      · have j1 : (Z1 != 0) = true := bne_t hz1
        clear hz1
        go_wp2
        go_ret
        exact ⟨rfl, T⟩
    · have j0 : (Z2 == 0) = false := beq_f hz2
      clear hz2
      by_cases hz1 : Z1 = 0
      · have j1 : (Z1 != 0) = false := bne_f hz1
        have HP := Lib.hid (HPR.out hz1)
        clear hz1
        go_wp2_with fail
        refine (VerifyCard_any s1 t1 B1 d1 x1 Q1 e1 R1 _ (by omega) ox1.rd (by omega) hc1 oq1.rd (by omega) hq1 (by omega)).mono ?_
        rw [HP.out.1, HP.out.2.1]
        rintro e u1 ⟨rfl, hu1⟩
        replace k1 := cell_later hu1 k1
        replace k2 := cell_later hu1 k2
        replace ox1 := ox1.bs hu1
        replace oq1 := oq1.bs hu1
        replace T := bs T hu1
        go_wp2_with fail
        refine (KeysFor_any s1 B1 d1 x1 Q1 e1 R1 _ (by omega) ox1.rd (by omega) hc1 oq1.rd (by omega) hq1).mono ?_
        rw [HP.out.2.2.1, HP.out.2.2.2.1]
        rintro e u2 ⟨rfl, hu2⟩
        replace T := bs T hu2
        have j2 := lst_eq t1.toList
        have j3 : ((t1.size : Int) == N4) = true := beq_t (by rw [HN4.out, HP.out.2.2.2.2.1]; unfold knV; rw [if_pos HP.out.2.2.2.2.2])
        go_wp2
        go_ret
        exact ⟨rfl, T⟩
      · have j1 : (Z1 != 0) = true := bne_t hz1
        clear hz1
        go_wp2
        go_ret
        exact ⟨rfl, T⟩

set_option maxRecDepth 100000 in
theorem lawKeyed_lifted (os : Os) (started : os.Started) (H : Type) (enc : TypeId × Value → H) :
    ReturnsInHanded {} Try.checked os 3 .any (Rows.fnKeyedSpec.pre6 enc Try.prog Try.f3 Rows.fnKeyedRow.domain false) (Rows.fnKeyedSpec.post enc Try.prog Try.f3 false true false false) := by
  refine returnsInHanded_of_change (C := Try.checked) lawOwn started (by kernel_rfl) Try.func3
    (ChangeSpec.witness6 (enc := enc) (C := Try.checked) false ⟨#[], #[.slice none 0 0], []⟩ 8 (by kernel_rfl) (by kernel_rfl) (by kernel_rfl) (by kernel_rfl)) ?_
  intro W base args ds gs before hval0 hW _ _
  have hval : ∀ (j : Nat) t v, Try.f3.params[j]? = some t → args[j]? = some v → Value.okWide Try.prog W .any base t v := hval0
  clear hval0
  have hW0 : DataW.Whole enc Try.prog Try.f3.params.toList Rows.fnKeyedSpec.vars false W args.toList ds gs before := hW
  clear hW
  have hW := hW0
  obtain ⟨p, q, hA, hV, _, _, _⟩ := hW
  rw [Try.params3] at hA hval
  obtain ⟨v0, vs0, d0, ds0, p0, q0, hargs, rfl, rfl, h0, hA0⟩ := trodAll_cons hA
  obtain ⟨rfl, rfl, rfl⟩ := trodAll_nil hA0
  have hargs2 : args = #[v0] := by cases args; simp_all
  clear hargs
  subst hargs2
  obtain ⟨A0, c0, bs0, rfl, hc0, hm0, r0⟩ := in_bytes Try.underlying22 Try.underlying5 (by kernel_rfl) (hval 0 22 v0 rfl rfl) h0
  have hcall := lawKeyed_any A0 _ c0 bs0 W r0
  refine hcall.mono fun e W' ⟨he, hb⟩ => ⟨_, he, ?_⟩
  exact post_law (f := Try.f3) (s := Rows.fnKeyedSpec) hW0 rfl (tb := 4) rfl Try.underlying4 rfl lawLaid (by kernel_rfl) hb

theorem fnKeyed_holds : Rows.FnKeyedSaid :=
  OpenClaim.holds_of_wide 3 Try.f3 rfl rfl rfl rfl rfl rfl rfl ⟨rfl, rfl, rfl, rfl, rfl⟩ rfl rfl rfl rfl rfl (by kernel_rfl) Try.func3 (by kernel_rfl)
    (of_decide_eq_true (by kernel_rfl)) (by unfold Func.isWrapper; first | (rw [if_pos (by decide +kernel)]; kernel_rfl) | (rw [if_neg (by decide +kernel)]; exact ⟨rfl, rfl⟩))
    (fun os started H enc _ => lawKeyed_lifted os started H enc)
#print axioms fnKeyed_holds
end Go.Proofs.Ytkmejkeanmjfbaa
