/- The law FnShifted answers true at every input, and its argument stays as it was; conditions: none. -/
import Derived.Test.YthbgdnjlmaadjaaRows
import Derived.Test.YthbgdnjlmaadjaaLawBase
import Derived.Test.YthbgdnjlmaadjaaOpenBytes
import Derived.Test.YthbgdnjlmaadjaaDamLaw
import Derived.Test.YthbgdnjlmaadjaaShNear
import Derived.Test.YthbgdnjlmaadjaaShDraw2
import Derived.Test.YthbgdnjlmaadjaaShLaw
import Derived.Deep.DeepCutAuto
namespace Go.Proofs.Ythbgdnjlmaadjaa
open Go.RowKit Go.ChangeShapes Go.WideShapes Go.ChangeAt

theorem any_step {α : Type} {os : List α} {p : α → Bool} {k : Nat} (h : k < os.length) : (os.take (k + 1)).any p = ((os.take k).any p || p os[k]) := by
  rw [List.take_succ_eq_append_getElem h, List.any_append]
  simp
/-- Behind k of the columns that are found. -/
def HasR (lc : List Int) (z : Int) (wq wr : World) (f q : Value) : Prop := ∃ k : Nat, k ≤ lc.length ∧ q = .int .i64 k ∧ f = .bool ((lc.take k).any (· == z)) ∧ Below wq.heap.size wq wr

/-- Behind k cards. -/
def NeaR (n : Nat) (wq wr : World) (q : Value) : Prop := ∃ k : Nat, k ≤ n ∧ q = .int .i64 k ∧ Below wq.heap.size wq wr

set_option maxRecDepth 100000 in
set_option maxHeartbeats 16000000 in
theorem lawShifted_any (A : Option Addr) (n0 c0 : Nat) (bs0 : List UInt8) (w : World) (ha : Rd w w.heap.size 1 A n0 (byts bs0)) :
    Calls Try.prog 4 #[.slice A n0 c0] w fun e w' => e = .returned (.bool true) ∧ Below w.heap.size w w' := by
  by_cases hn : 4096 < n0
  · go_enter Try.func4, Try.ntmps4
    go_wp2_with fail
    refine (f6big_yes A n0 c0 _ hn).mono ?_; rintro e w1 ⟨rfl, rfl⟩
    go_wp2
    go_ret
    exact ⟨rfl, b0 _⟩
  · go_enter Try.func4, Try.ntmps4
    go_wp2_with fail
    refine (f6big_no A n0 c0 _ hn).mono ?_; rintro e w1 ⟨rfl, rfl⟩
    have T := b0 w
    go_wp2_with fail
    refine (DrawShiftOf_any A n0 c0 bs0 _ ha (by omega)).mono ?_
    rintro e v1 ⟨B, n, d, xs, C, m, g, ys, rfl, hxl, hxs, hyl, hys, ox, oy, hb1⟩
    subst hxl hyl
    replace ha := ha.up hb1
    replace T := bs T hb1
    have cox := (own_cap ox.1).1
    have coy := (own_cap oy.1).1
    obtain ⟨sb, hsb⟩ : ∃ sb, sb = shBy xs ys := ⟨_, rfl⟩
    have Hsb := Lib.hid hsb
    clear hsb
    obtain ⟨sc, hsc⟩ : ∃ sc, sc = shC xs ys := ⟨_, rfl⟩
    have Hsc := Lib.hid hsc
    clear hsc
    have k1 := cell_new (w := v1) (cs := #[.slice B xs.length d]) (e := 26) (j := 0) (H := v1.heap.size) rfl rfl
    have hb2 := ba (b0 (v1)) (.cells #[.slice B xs.length d] 26)
    replace ox := ox.bs hb2
    replace oy := oy.bs hb2
    replace ha := ha.up hb2
    replace T := bs T hb2
    clear hb2
    have k2 := cell_new (w := (v1).alloc (.cells #[.slice B xs.length d] 26)) (cs := #[.slice C ys.length g]) (e := 26) (j := 0) (H := v1.heap.size + 1) (by simp) rfl
    have hb3 := ba (b0 ((v1).alloc (.cells #[.slice B xs.length d] 26))) (.cells #[.slice C ys.length g] 26)
    replace k1 := cell_later hb3 k1
    replace ox := ox.bs hb3
    replace oy := oy.bs hb3
    replace ha := ha.up hb3
    replace T := bs T hb3
    clear hb3
    go_wp2_with fail
    refine (ShiftOf_any B d xs C g ys _ ox.rd (by omega) cox oy.rd (by omega) coy).mono ?_
    rw [← Hsb.out, ← Hsc.out]
    rintro e v4 ⟨rfl, hb4⟩
    replace k1 := cell_later hb4 k1
    replace k2 := cell_later hb4 k2
    replace ox := ox.bs hb4
    replace oy := oy.bs hb4
    replace ha := ha.up hb4
    replace T := bs T hb4
    go_wp2_with fail
    refine (spShiftOf_any B d xs C g ys _ ox.rd (by omega) cox oy.rd (by omega) coy).mono ?_
    rw [← Hsb.out, ← Hsc.out]
    rintro e v5 ⟨rfl, hb5⟩
    replace k1 := cell_later hb5 k1
    replace k2 := cell_later hb5 k2
    replace ox := ox.bs hb5
    replace oy := oy.bs hb5
    replace ha := ha.up hb5
    replace T := bs T hb5
    go_wp2_with fail
    refine (DrawShiftCard_any A n0 c0 bs0 _ ha (by omega)).mono ?_
    rintro e v6 ⟨D, n, dd, us, kk, rfl, hul, hus, ou, hb6⟩
    subst hul
    replace k1 := cell_later hb6 k1
    replace k2 := cell_later hb6 k2
    replace ox := ox.bs hb6
    replace oy := oy.bs hb6
    replace ha := ha.up hb6
    replace T := bs T hb6
    have cou := (own_cap ou.1).1
    obtain ⟨fc, hfc⟩ : ∃ fc, fc = shiftCode us kk := ⟨_, rfl⟩
    have Hfc := Lib.hid hfc
    clear hfc
    obtain ⟨fr, hfr⟩ : ∃ fr, fr = shiftRes us kk := ⟨_, rfl⟩
    have Hfr := Lib.hid hfr
    clear hfr
    have hfr : fr.length ≤ 20 := by rw [Hfr.out]; exact shiftRes_length us kk
    have k3 := cell_new (w := v6) (cs := #[.slice D us.length dd]) (e := 26) (j := 0) (H := v6.heap.size) rfl rfl
    have hb7 := ba (b0 (v6)) (.cells #[.slice D us.length dd] 26)
    replace k1 := cell_later hb7 k1
    replace k2 := cell_later hb7 k2
    replace ox := ox.bs hb7
    replace oy := oy.bs hb7
    replace ou := ou.bs hb7
    replace ha := ha.up hb7
    replace T := bs T hb7
    clear hb7
    go_wp2_with fail
    refine (ShiftCard_any D dd us kk _ ou.rd (by omega) cou).mono ?_
    rw [← Hfr.out, ← Hfc.out]
    rintro e v8 ⟨X1, dx1, rfl, ox1', hb8⟩
    replace k1 := cell_later hb8 k1
    replace k2 := cell_later hb8 k2
    replace k3 := cell_later hb8 k3
    replace ox := ox.bs hb8
    replace oy := oy.bs hb8
    replace ou := ou.bs hb8
    replace ha := ha.up hb8
    replace T := bs T hb8
    have ox1 := Ob.of ox1'
    clear ox1'
    have cox1 := (own_cap ox1.1).1
    have k4 := cell_new (w := v8) (cs := #[.slice X1 fr.length dx1]) (e := 26) (j := 0) (H := v8.heap.size) rfl rfl
    have hb9 := ba (b0 (v8)) (.cells #[.slice X1 fr.length dx1] 26)
    replace k1 := cell_later hb9 k1
    replace k2 := cell_later hb9 k2
    replace k3 := cell_later hb9 k3
    replace ox := ox.bs hb9
    replace oy := oy.bs hb9
    replace ou := ou.bs hb9
    replace ox1 := ox1.bs hb9
    replace ha := ha.up hb9
    replace T := bs T hb9
    clear hb9
    go_wp2_with fail
    refine (spShiftCard_any D dd us kk _ ou.rd (by omega) cou).mono ?_
    rw [← Hfr.out, ← Hfc.out]
    rintro e v10 ⟨X2, dx2, rfl, ox2', hb10⟩
    replace k1 := cell_later hb10 k1
    replace k2 := cell_later hb10 k2
    replace k3 := cell_later hb10 k3
    replace k4 := cell_later hb10 k4
    replace ox := ox.bs hb10
    replace oy := oy.bs hb10
    replace ou := ou.bs hb10
    replace ox1 := ox1.bs hb10
    replace ha := ha.up hb10
    replace T := bs T hb10
    have ox2 := Ob.of ox2'
    clear ox2'
    have cox2 := (own_cap ox2.1).1
    have k5 := cell_new (w := v10) (cs := #[.slice X2 fr.length dx2]) (e := 26) (j := 0) (H := v10.heap.size) rfl rfl
    have hb11 := ba (b0 (v10)) (.cells #[.slice X2 fr.length dx2] 26)
    replace k1 := cell_later hb11 k1
    replace k2 := cell_later hb11 k2
    replace k3 := cell_later hb11 k3
    replace k4 := cell_later hb11 k4
    replace ox := ox.bs hb11
    replace oy := oy.bs hb11
    replace ou := ou.bs hb11
    replace ox1 := ox1.bs hb11
    replace ox2 := ox2.bs hb11
    replace ha := ha.up hb11
    replace T := bs T hb11
    clear hb11
    as_aux_lemma =>
      go_wp2_with fail
      refine (DrawLaceColumn_any A n0 c0 bs0 _ ha (by omega)).mono ?_
      rintro e v12 ⟨E, n, de, es, zc, rfl, hel, hes, oe, hb12⟩
      subst hel
      replace k1 := cell_later hb12 k1
      replace k2 := cell_later hb12 k2
      replace k3 := cell_later hb12 k3
      replace k4 := cell_later hb12 k4
      replace k5 := cell_later hb12 k5
      replace ox := ox.bs hb12
      replace oy := oy.bs hb12
      replace ou := ou.bs hb12
      replace ox1 := ox1.bs hb12
      replace ox2 := ox2.bs hb12
      replace ha := ha.up hb12
      replace T := bs T hb12
      have coe := (own_cap oe.1).1
      have HLF := Lib.hid (fun h => laced_found (xs := es) (z := zc) h)
      obtain ⟨lc, hlc⟩ : ∃ lc, lc = laceCode es zc := ⟨_, rfl⟩
      have Hlc := Lib.hid hlc
      clear hlc
      obtain ⟨lr, hlr⟩ : ∃ lr, lr = laceRes es zc := ⟨_, rfl⟩
      have Hlr := Lib.hid hlr
      clear hlr
      rw [← Hlc.out, ← Hlr.out] at HLF
      have hlr : lr.length ≤ 20 := by rw [Hlr.out]; exact laceRes_length es zc
      have k6 := cell_new (w := v12) (cs := #[.slice E es.length de]) (e := 26) (j := 0) (H := v12.heap.size) rfl rfl
      have hb13 := ba (b0 (v12)) (.cells #[.slice E es.length de] 26)
      replace k1 := cell_later hb13 k1
      replace k2 := cell_later hb13 k2
      replace k3 := cell_later hb13 k3
      replace k4 := cell_later hb13 k4
      replace k5 := cell_later hb13 k5
      replace ox := ox.bs hb13
      replace oy := oy.bs hb13
      replace ou := ou.bs hb13
      replace ox1 := ox1.bs hb13
      replace ox2 := ox2.bs hb13
      replace oe := oe.bs hb13
      replace ha := ha.up hb13
      replace T := bs T hb13
      clear hb13
      go_wp2_with fail
      refine (LaceColumn_any E de es zc _ oe.rd (by omega) coe).mono ?_
      rw [← Hlr.out, ← Hlc.out]
      rintro e v14 ⟨X3, dx3, rfl, ox3', hb14⟩
      replace k1 := cell_later hb14 k1
      replace k2 := cell_later hb14 k2
      replace k3 := cell_later hb14 k3
      replace k4 := cell_later hb14 k4
      replace k5 := cell_later hb14 k5
      replace k6 := cell_later hb14 k6
      replace ox := ox.bs hb14
      replace oy := oy.bs hb14
      replace ou := ou.bs hb14
      replace ox1 := ox1.bs hb14
      replace ox2 := ox2.bs hb14
      replace oe := oe.bs hb14
      replace ha := ha.up hb14
      replace T := bs T hb14
      have ox3 := Ob.of ox3'
      clear ox3'
      have cox3 := (own_cap ox3.1).1
      have k7 := cell_new (w := v14) (cs := #[.slice X3 lr.length dx3]) (e := 26) (j := 0) (H := v14.heap.size) rfl rfl
      have hb15 := ba (b0 (v14)) (.cells #[.slice X3 lr.length dx3] 26)
      replace k1 := cell_later hb15 k1
      replace k2 := cell_later hb15 k2
      replace k3 := cell_later hb15 k3
      replace k4 := cell_later hb15 k4
      replace k5 := cell_later hb15 k5
      replace k6 := cell_later hb15 k6
      replace ox := ox.bs hb15
      replace oy := oy.bs hb15
      replace ou := ou.bs hb15
      replace ox1 := ox1.bs hb15
      replace ox2 := ox2.bs hb15
      replace oe := oe.bs hb15
      replace ox3 := ox3.bs hb15
      replace ha := ha.up hb15
      replace T := bs T hb15
      clear hb15
      go_wp2_with fail
      refine (spLaceColumn_any E de es zc _ oe.rd (by omega) coe).mono ?_
      rw [← Hlr.out, ← Hlc.out]
      rintro e v16 ⟨X4, dx4, rfl, ox4', hb16⟩
      replace k1 := cell_later hb16 k1
      replace k2 := cell_later hb16 k2
      replace k3 := cell_later hb16 k3
      replace k4 := cell_later hb16 k4
      replace k5 := cell_later hb16 k5
      replace k6 := cell_later hb16 k6
      replace k7 := cell_later hb16 k7
      replace ox := ox.bs hb16
      replace oy := oy.bs hb16
      replace ou := ou.bs hb16
      replace ox1 := ox1.bs hb16
      replace ox2 := ox2.bs hb16
      replace oe := oe.bs hb16
      replace ox3 := ox3.bs hb16
      replace ha := ha.up hb16
      replace T := bs T hb16
      have ox4 := Ob.of ox4'
      clear ox4'
      have cox4 := (own_cap ox4.1).1
      have k8 := cell_new (w := v16) (cs := #[.slice X4 lr.length dx4]) (e := 26) (j := 0) (H := v16.heap.size) rfl rfl
      have hb17 := ba (b0 (v16)) (.cells #[.slice X4 lr.length dx4] 26)
      replace k1 := cell_later hb17 k1
      replace k2 := cell_later hb17 k2
      replace k3 := cell_later hb17 k3
      replace k4 := cell_later hb17 k4
      replace k5 := cell_later hb17 k5
      replace k6 := cell_later hb17 k6
      replace k7 := cell_later hb17 k7
      replace ox := ox.bs hb17
      replace oy := oy.bs hb17
      replace ou := ou.bs hb17
      replace ox1 := ox1.bs hb17
      replace ox2 := ox2.bs hb17
      replace oe := oe.bs hb17
      replace ox3 := ox3.bs hb17
      replace ox4 := ox4.bs hb17
      replace ha := ha.up hb17
      replace T := bs T hb17
      clear hb17
      as_aux_lemma =>
        go_wp2_with fail
        refine (DrawLacedColumns_any A n0 c0 bs0 _ ha (by omega)).mono ?_
        rintro e v18 ⟨F, n, df, fs, rfl, hfl, hfs, of1, hb18⟩
        subst hfl
        replace k1 := cell_later hb18 k1
        replace k2 := cell_later hb18 k2
        replace k3 := cell_later hb18 k3
        replace k4 := cell_later hb18 k4
        replace k5 := cell_later hb18 k5
        replace k6 := cell_later hb18 k6
        replace k7 := cell_later hb18 k7
        replace k8 := cell_later hb18 k8
        replace ox := ox.bs hb18
        replace oy := oy.bs hb18
        replace ou := ou.bs hb18
        replace ox1 := ox1.bs hb18
        replace ox2 := ox2.bs hb18
        replace oe := oe.bs hb18
        replace ox3 := ox3.bs hb18
        replace ox4 := ox4.bs hb18
        replace ha := ha.up hb18
        replace T := bs T hb18
        have cof := (own_cap of1.1).1
        obtain ⟨mc, hmc⟩ : ∃ mc, mc = lacedCode fs := ⟨_, rfl⟩
        have Hmc := Lib.hid hmc
        clear hmc
        obtain ⟨mr, hmr⟩ : ∃ mr, mr = lacedRes fs := ⟨_, rfl⟩
        have Hmr := Lib.hid hmr
        clear hmr
        have hmr : mr.length ≤ 20 := by rw [Hmr.out]; exact lacedRes_length fs
        have k9 := cell_new (w := v18) (cs := #[.slice F fs.length df]) (e := 26) (j := 0) (H := v18.heap.size) rfl rfl
        have hb19 := ba (b0 (v18)) (.cells #[.slice F fs.length df] 26)
        replace k1 := cell_later hb19 k1
        replace k2 := cell_later hb19 k2
        replace k3 := cell_later hb19 k3
        replace k4 := cell_later hb19 k4
        replace k5 := cell_later hb19 k5
        replace k6 := cell_later hb19 k6
        replace k7 := cell_later hb19 k7
        replace k8 := cell_later hb19 k8
        replace ox := ox.bs hb19
        replace oy := oy.bs hb19
        replace ou := ou.bs hb19
        replace ox1 := ox1.bs hb19
        replace ox2 := ox2.bs hb19
        replace oe := oe.bs hb19
        replace ox3 := ox3.bs hb19
        replace ox4 := ox4.bs hb19
        replace of1 := of1.bs hb19
        replace ha := ha.up hb19
        replace T := bs T hb19
        clear hb19
        go_wp2_with fail
        refine (LacedColumns_any F df fs _ of1.rd (by omega) cof).mono ?_
        rw [← Hmr.out, ← Hmc.out]
        rintro e v20 ⟨X5, dx5, rfl, ox5', hb20⟩
        replace k1 := cell_later hb20 k1
        replace k2 := cell_later hb20 k2
        replace k3 := cell_later hb20 k3
        replace k4 := cell_later hb20 k4
        replace k5 := cell_later hb20 k5
        replace k6 := cell_later hb20 k6
        replace k7 := cell_later hb20 k7
        replace k8 := cell_later hb20 k8
        replace k9 := cell_later hb20 k9
        replace ox := ox.bs hb20
        replace oy := oy.bs hb20
        replace ou := ou.bs hb20
        replace ox1 := ox1.bs hb20
        replace ox2 := ox2.bs hb20
        replace oe := oe.bs hb20
        replace ox3 := ox3.bs hb20
        replace ox4 := ox4.bs hb20
        replace of1 := of1.bs hb20
        replace ha := ha.up hb20
        replace T := bs T hb20
        have ox5 := Ob.of ox5'
        clear ox5'
        have cox5 := (own_cap ox5.1).1
        go_wp2_with fail
        refine (spLacedColumns_any F df fs _ of1.rd (by omega) cof).mono ?_
        rw [← Hmr.out, ← Hmc.out]
        rintro e v21 ⟨X6, dx6, rfl, ox6', hb21⟩
        replace k1 := cell_later hb21 k1
        replace k2 := cell_later hb21 k2
        replace k3 := cell_later hb21 k3
        replace k4 := cell_later hb21 k4
        replace k5 := cell_later hb21 k5
        replace k6 := cell_later hb21 k6
        replace k7 := cell_later hb21 k7
        replace k8 := cell_later hb21 k8
        replace k9 := cell_later hb21 k9
        replace ox := ox.bs hb21
        replace oy := oy.bs hb21
        replace ou := ou.bs hb21
        replace ox1 := ox1.bs hb21
        replace ox2 := ox2.bs hb21
        replace oe := oe.bs hb21
        replace ox3 := ox3.bs hb21
        replace ox4 := ox4.bs hb21
        replace of1 := of1.bs hb21
        replace ox5 := ox5.bs hb21
        replace ha := ha.up hb21
        replace T := bs T hb21
        have ox6 := Ob.of ox6'
        clear ox6'
        have cox6 := (own_cap ox6.1).1
        as_aux_lemma =>
          go_wp2_with fail
          refine (DrawNearestCard_any A n0 c0 bs0 _ ha (by omega)).mono ?_
          rintro e v22 ⟨G, cg, gs, I, n, di, is, rfl, hgl, hgd, hil, his, og, oi, hb22⟩
          subst hil
          replace k1 := cell_later hb22 k1
          replace k2 := cell_later hb22 k2
          replace k3 := cell_later hb22 k3
          replace k4 := cell_later hb22 k4
          replace k5 := cell_later hb22 k5
          replace k6 := cell_later hb22 k6
          replace k7 := cell_later hb22 k7
          replace k8 := cell_later hb22 k8
          replace k9 := cell_later hb22 k9
          replace ox := ox.bs hb22
          replace oy := oy.bs hb22
          replace ou := ou.bs hb22
          replace ox1 := ox1.bs hb22
          replace ox2 := ox2.bs hb22
          replace oe := oe.bs hb22
          replace ox3 := ox3.bs hb22
          replace ox4 := ox4.bs hb22
          replace of1 := of1.bs hb22
          replace ox5 := ox5.bs hb22
          replace ox6 := ox6.bs hb22
          replace ha := ha.up hb22
          replace T := bs T hb22
          have coi := (own_cap oi.1).1
          have hgt := len_tot hgd hgl
          have HNA := Lib.hid (fun h (k : Nat) hk => near_all (hs := gs) (xs := is) h (k := k) hk)
          obtain ⟨na, hna⟩ : ∃ na, na = nearA (cards gs) is := ⟨_, rfl⟩
          have Hna := Lib.hid hna
          clear hna
          obtain ⟨nd, hnd⟩ : ∃ nd, nd = nearD (cards gs) is := ⟨_, rfl⟩
          have Hnd := Lib.hid hnd
          clear hnd
          obtain ⟨nc, hnc⟩ : ∃ nc, nc = nearC (cards gs) is := ⟨_, rfl⟩
          have Hnc := Lib.hid hnc
          clear hnc
          rw [← Hna.out, ← Hnd.out, ← Hnc.out] at HNA
          have HGD := Lib.hid hgd
          clear hgd
          have k10 := cell_new (w := v22) (cs := #[.slice I is.length di]) (e := 26) (j := 0) (H := v22.heap.size) rfl rfl
          have hb23 := ba (b0 (v22)) (.cells #[.slice I is.length di] 26)
          replace k1 := cell_later hb23 k1
          replace k2 := cell_later hb23 k2
          replace k3 := cell_later hb23 k3
          replace k4 := cell_later hb23 k4
          replace k5 := cell_later hb23 k5
          replace k6 := cell_later hb23 k6
          replace k7 := cell_later hb23 k7
          replace k8 := cell_later hb23 k8
          replace k9 := cell_later hb23 k9
          replace ox := ox.bs hb23
          replace oy := oy.bs hb23
          replace ou := ou.bs hb23
          replace ox1 := ox1.bs hb23
          replace ox2 := ox2.bs hb23
          replace oe := oe.bs hb23
          replace ox3 := ox3.bs hb23
          replace ox4 := ox4.bs hb23
          replace of1 := of1.bs hb23
          replace ox5 := ox5.bs hb23
          replace ox6 := ox6.bs hb23
          replace og := og.bs hb23
          replace oi := oi.bs hb23
          replace ha := ha.up hb23
          replace T := bs T hb23
          clear hb23
          go_wp2_with fail
          refine (NearestCard_any G cg gs (cards gs) I di is _ og.rd rfl (by omega) og.cap.1 oi.rd (by omega) coi).mono ?_
          rw [← Hna.out, ← Hnd.out, ← Hnc.out]
          rintro e v24 ⟨rfl, hb24⟩
          replace k1 := cell_later hb24 k1
          replace k2 := cell_later hb24 k2
          replace k3 := cell_later hb24 k3
          replace k4 := cell_later hb24 k4
          replace k5 := cell_later hb24 k5
          replace k6 := cell_later hb24 k6
          replace k7 := cell_later hb24 k7
          replace k8 := cell_later hb24 k8
          replace k9 := cell_later hb24 k9
          replace k10 := cell_later hb24 k10
          replace ox := ox.bs hb24
          replace oy := oy.bs hb24
          replace ou := ou.bs hb24
          replace ox1 := ox1.bs hb24
          replace ox2 := ox2.bs hb24
          replace oe := oe.bs hb24
          replace ox3 := ox3.bs hb24
          replace ox4 := ox4.bs hb24
          replace of1 := of1.bs hb24
          replace ox5 := ox5.bs hb24
          replace ox6 := ox6.bs hb24
          replace og := og.bs hb24
          replace oi := oi.bs hb24
          replace ha := ha.up hb24
          replace T := bs T hb24
          go_wp2_with fail
          refine (spNearestCard_any G cg gs (cards gs) I di is _ og.rd rfl (by omega) og.cap.1 oi.rd (by omega) coi).mono ?_
          rw [← Hna.out, ← Hnd.out, ← Hnc.out]
          rintro e v25 ⟨rfl, hb25⟩
          replace k1 := cell_later hb25 k1
          replace k2 := cell_later hb25 k2
          replace k3 := cell_later hb25 k3
          replace k4 := cell_later hb25 k4
          replace k5 := cell_later hb25 k5
          replace k6 := cell_later hb25 k6
          replace k7 := cell_later hb25 k7
          replace k8 := cell_later hb25 k8
          replace k9 := cell_later hb25 k9
          replace k10 := cell_later hb25 k10
          replace ox := ox.bs hb25
          replace oy := oy.bs hb25
          replace ou := ou.bs hb25
          replace ox1 := ox1.bs hb25
          replace ox2 := ox2.bs hb25
          replace oe := oe.bs hb25
          replace ox3 := ox3.bs hb25
          replace ox4 := ox4.bs hb25
          replace of1 := of1.bs hb25
          replace ox5 := ox5.bs hb25
          replace ox6 := ox6.bs hb25
          replace og := og.bs hb25
          replace oi := oi.bs hb25
          replace ha := ha.up hb25
          replace T := bs T hb25
          as_aux_lemma =>
            go_wp2_with fail
            refine (DrawTornColumns_any A n0 c0 bs0 _ ha (by omega)).mono ?_
            rintro e v26 ⟨Q, n, dq, qs, fa, fb, rfl, hql, hqs, oq, hb26⟩
            subst hql
            replace k1 := cell_later hb26 k1
            replace k2 := cell_later hb26 k2
            replace k3 := cell_later hb26 k3
            replace k4 := cell_later hb26 k4
            replace k5 := cell_later hb26 k5
            replace k6 := cell_later hb26 k6
            replace k7 := cell_later hb26 k7
            replace k8 := cell_later hb26 k8
            replace k9 := cell_later hb26 k9
            replace k10 := cell_later hb26 k10
            replace ox := ox.bs hb26
            replace oy := oy.bs hb26
            replace ou := ou.bs hb26
            replace ox1 := ox1.bs hb26
            replace ox2 := ox2.bs hb26
            replace oe := oe.bs hb26
            replace ox3 := ox3.bs hb26
            replace ox4 := ox4.bs hb26
            replace of1 := of1.bs hb26
            replace ox5 := ox5.bs hb26
            replace ox6 := ox6.bs hb26
            replace og := og.bs hb26
            replace oi := oi.bs hb26
            replace ha := ha.up hb26
            replace T := bs T hb26
            have coq := (own_cap oq.1).1
            have HTO := Lib.hid (fun h => torn_ok (xs := qs) (a := fa) (b := fb) h)
            obtain ⟨tc, htc⟩ : ∃ tc, tc = fieldC qs fa fb := ⟨_, rfl⟩
            have Htc := Lib.hid htc
            clear htc
            obtain ⟨tr, htr⟩ : ∃ tr, tr = tornRes qs fa fb := ⟨_, rfl⟩
            have Htr := Lib.hid htr
            clear htr
            rw [← Htc.out, ← Htr.out] at HTO
            have htr : tr.length ≤ 20 := by rw [Htr.out]; exact tornRes_length qs fa fb
            have k11 := cell_new (w := v26) (cs := #[.slice Q qs.length dq]) (e := 26) (j := 0) (H := v26.heap.size) rfl rfl
            have hb27 := ba (b0 (v26)) (.cells #[.slice Q qs.length dq] 26)
            replace k1 := cell_later hb27 k1
            replace k2 := cell_later hb27 k2
            replace k3 := cell_later hb27 k3
            replace k4 := cell_later hb27 k4
            replace k5 := cell_later hb27 k5
            replace k6 := cell_later hb27 k6
            replace k7 := cell_later hb27 k7
            replace k8 := cell_later hb27 k8
            replace k9 := cell_later hb27 k9
            replace k10 := cell_later hb27 k10
            replace ox := ox.bs hb27
            replace oy := oy.bs hb27
            replace ou := ou.bs hb27
            replace ox1 := ox1.bs hb27
            replace ox2 := ox2.bs hb27
            replace oe := oe.bs hb27
            replace ox3 := ox3.bs hb27
            replace ox4 := ox4.bs hb27
            replace of1 := of1.bs hb27
            replace ox5 := ox5.bs hb27
            replace ox6 := ox6.bs hb27
            replace og := og.bs hb27
            replace oi := oi.bs hb27
            replace oq := oq.bs hb27
            replace ha := ha.up hb27
            replace T := bs T hb27
            clear hb27
            have kf0 := cell_new (w := (v26).alloc (.cells #[.slice Q qs.length dq] 26)) (cs := #[.int .i64 fa, .int .i64 fb]) (e := 51) (j := 0) (H := v26.heap.size + 1) (by simp) rfl
            have kf1 := cell_new (w := (v26).alloc (.cells #[.slice Q qs.length dq] 26)) (cs := #[.int .i64 fa, .int .i64 fb]) (e := 51) (j := 1) (H := v26.heap.size + 1) (by simp) rfl
            have hb28 := ba (b0 ((v26).alloc (.cells #[.slice Q qs.length dq] 26))) (.cells #[.int .i64 fa, .int .i64 fb] 51)
            replace k1 := cell_later hb28 k1
            replace k2 := cell_later hb28 k2
            replace k3 := cell_later hb28 k3
            replace k4 := cell_later hb28 k4
            replace k5 := cell_later hb28 k5
            replace k6 := cell_later hb28 k6
            replace k7 := cell_later hb28 k7
            replace k8 := cell_later hb28 k8
            replace k9 := cell_later hb28 k9
            replace k10 := cell_later hb28 k10
            replace k11 := cell_later hb28 k11
            replace ox := ox.bs hb28
            replace oy := oy.bs hb28
            replace ou := ou.bs hb28
            replace ox1 := ox1.bs hb28
            replace ox2 := ox2.bs hb28
            replace oe := oe.bs hb28
            replace ox3 := ox3.bs hb28
            replace ox4 := ox4.bs hb28
            replace of1 := of1.bs hb28
            replace ox5 := ox5.bs hb28
            replace ox6 := ox6.bs hb28
            replace og := og.bs hb28
            replace oi := oi.bs hb28
            replace oq := oq.bs hb28
            replace ha := ha.up hb28
            replace T := bs T hb28
            clear hb28
            go_wp2_with fail
            refine (TornColumns_any Q dq qs fa fb _ oq.rd (by omega) coq).mono ?_
            rw [← Htr.out, ← Htc.out]
            rintro e v29 ⟨X7, dx7, rfl, ox7', hb29⟩
            replace k1 := cell_later hb29 k1
            replace k2 := cell_later hb29 k2
            replace k3 := cell_later hb29 k3
            replace k4 := cell_later hb29 k4
            replace k5 := cell_later hb29 k5
            replace k6 := cell_later hb29 k6
            replace k7 := cell_later hb29 k7
            replace k8 := cell_later hb29 k8
            replace k9 := cell_later hb29 k9
            replace k10 := cell_later hb29 k10
            replace k11 := cell_later hb29 k11
            replace kf0 := cell_later hb29 kf0
            replace kf1 := cell_later hb29 kf1
            replace ox := ox.bs hb29
            replace oy := oy.bs hb29
            replace ou := ou.bs hb29
            replace ox1 := ox1.bs hb29
            replace ox2 := ox2.bs hb29
            replace oe := oe.bs hb29
            replace ox3 := ox3.bs hb29
            replace ox4 := ox4.bs hb29
            replace of1 := of1.bs hb29
            replace ox5 := ox5.bs hb29
            replace ox6 := ox6.bs hb29
            replace og := og.bs hb29
            replace oi := oi.bs hb29
            replace oq := oq.bs hb29
            replace ha := ha.up hb29
            replace T := bs T hb29
            have ox7 := Ob.of ox7'
            clear ox7'
            have cox7 := (own_cap ox7.1).1
            have k12 := cell_new (w := v29) (cs := #[.slice X7 tr.length dx7]) (e := 26) (j := 0) (H := v29.heap.size) rfl rfl
            have hb30 := ba (b0 (v29)) (.cells #[.slice X7 tr.length dx7] 26)
            replace k1 := cell_later hb30 k1
            replace k2 := cell_later hb30 k2
            replace k3 := cell_later hb30 k3
            replace k4 := cell_later hb30 k4
            replace k5 := cell_later hb30 k5
            replace k6 := cell_later hb30 k6
            replace k7 := cell_later hb30 k7
            replace k8 := cell_later hb30 k8
            replace k9 := cell_later hb30 k9
            replace k10 := cell_later hb30 k10
            replace k11 := cell_later hb30 k11
            replace kf0 := cell_later hb30 kf0
            replace kf1 := cell_later hb30 kf1
            replace ox := ox.bs hb30
            replace oy := oy.bs hb30
            replace ou := ou.bs hb30
            replace ox1 := ox1.bs hb30
            replace ox2 := ox2.bs hb30
            replace oe := oe.bs hb30
            replace ox3 := ox3.bs hb30
            replace ox4 := ox4.bs hb30
            replace of1 := of1.bs hb30
            replace ox5 := ox5.bs hb30
            replace ox6 := ox6.bs hb30
            replace og := og.bs hb30
            replace oi := oi.bs hb30
            replace oq := oq.bs hb30
            replace ox7 := ox7.bs hb30
            replace ha := ha.up hb30
            replace T := bs T hb30
            clear hb30
            go_wp2_with fail
            refine (spTornColumns_any Q dq qs fa fb _ oq.rd (by omega) coq).mono ?_
            rw [← Htr.out, ← Htc.out]
            rintro e v31 ⟨X8, dx8, rfl, ox8', hb31⟩
            replace k1 := cell_later hb31 k1
            replace k2 := cell_later hb31 k2
            replace k3 := cell_later hb31 k3
            replace k4 := cell_later hb31 k4
            replace k5 := cell_later hb31 k5
            replace k6 := cell_later hb31 k6
            replace k7 := cell_later hb31 k7
            replace k8 := cell_later hb31 k8
            replace k9 := cell_later hb31 k9
            replace k10 := cell_later hb31 k10
            replace k11 := cell_later hb31 k11
            replace kf0 := cell_later hb31 kf0
            replace kf1 := cell_later hb31 kf1
            replace k12 := cell_later hb31 k12
            replace ox := ox.bs hb31
            replace oy := oy.bs hb31
            replace ou := ou.bs hb31
            replace ox1 := ox1.bs hb31
            replace ox2 := ox2.bs hb31
            replace oe := oe.bs hb31
            replace ox3 := ox3.bs hb31
            replace ox4 := ox4.bs hb31
            replace of1 := of1.bs hb31
            replace ox5 := ox5.bs hb31
            replace ox6 := ox6.bs hb31
            replace og := og.bs hb31
            replace oi := oi.bs hb31
            replace oq := oq.bs hb31
            replace ox7 := ox7.bs hb31
            replace ha := ha.up hb31
            replace T := bs T hb31
            have ox8 := Ob.of ox8'
            clear ox8'
            have cox8 := (own_cap ox8.1).1
            have k13 := cell_new (w := v31) (cs := #[.slice X8 tr.length dx8]) (e := 26) (j := 0) (H := v31.heap.size) rfl rfl
            have hb32 := ba (b0 (v31)) (.cells #[.slice X8 tr.length dx8] 26)
            replace k1 := cell_later hb32 k1
            replace k2 := cell_later hb32 k2
            replace k3 := cell_later hb32 k3
            replace k4 := cell_later hb32 k4
            replace k5 := cell_later hb32 k5
            replace k6 := cell_later hb32 k6
            replace k7 := cell_later hb32 k7
            replace k8 := cell_later hb32 k8
            replace k9 := cell_later hb32 k9
            replace k10 := cell_later hb32 k10
            replace k11 := cell_later hb32 k11
            replace kf0 := cell_later hb32 kf0
            replace kf1 := cell_later hb32 kf1
            replace k12 := cell_later hb32 k12
            replace ox := ox.bs hb32
            replace oy := oy.bs hb32
            replace ou := ou.bs hb32
            replace ox1 := ox1.bs hb32
            replace ox2 := ox2.bs hb32
            replace oe := oe.bs hb32
            replace ox3 := ox3.bs hb32
            replace ox4 := ox4.bs hb32
            replace of1 := of1.bs hb32
            replace ox5 := ox5.bs hb32
            replace ox6 := ox6.bs hb32
            replace og := og.bs hb32
            replace oi := oi.bs hb32
            replace oq := oq.bs hb32
            replace ox7 := ox7.bs hb32
            replace ox8 := ox8.bs hb32
            replace ha := ha.up hb32
            replace T := bs T hb32
            clear hb32
            as_aux_lemma =>
              have n0 : (sc != sc) = false := bne_f rfl
              have n1 : (sb != sb) = false := bne_f rfl
              have n2 : (fc != fc) = false := bne_f rfl
              have n3 : (lc != lc) = false := bne_f rfl
              have n4 : (mc != mc) = false := bne_f rfl
              have n5 : (nc != nc) = false := bne_f rfl
              have n6 : (na != na) = false := bne_f rfl
              have n7 : (nd != nd) = false := bne_f rfl
              have n8 : (tc != tc) = false := bne_f rfl
              go_wp2_with fail
              refine (spSameCard_eq X1 X2 dx1 dx2 fr fr _ rfl ox1.rd ox2.rd (by omega)).mono ?_
              rintro e v33 ⟨rfl, hb33⟩
              replace k1 := cell_later hb33 k1
              replace k2 := cell_later hb33 k2
              replace k3 := cell_later hb33 k3
              replace k4 := cell_later hb33 k4
              replace k5 := cell_later hb33 k5
              replace k6 := cell_later hb33 k6
              replace k7 := cell_later hb33 k7
              replace k8 := cell_later hb33 k8
              replace k9 := cell_later hb33 k9
              replace k10 := cell_later hb33 k10
              replace k11 := cell_later hb33 k11
              replace kf0 := cell_later hb33 kf0
              replace kf1 := cell_later hb33 kf1
              replace k12 := cell_later hb33 k12
              replace k13 := cell_later hb33 k13
              replace ox := ox.bs hb33
              replace oy := oy.bs hb33
              replace ou := ou.bs hb33
              replace ox1 := ox1.bs hb33
              replace ox2 := ox2.bs hb33
              replace oe := oe.bs hb33
              replace ox3 := ox3.bs hb33
              replace ox4 := ox4.bs hb33
              replace of1 := of1.bs hb33
              replace ox5 := ox5.bs hb33
              replace ox6 := ox6.bs hb33
              replace og := og.bs hb33
              replace oi := oi.bs hb33
              replace oq := oq.bs hb33
              replace ox7 := ox7.bs hb33
              replace ox8 := ox8.bs hb33
              replace ha := ha.up hb33
              replace T := bs T hb33
              go_wp2_with fail
              refine (spSameCard_eq X3 X4 dx3 dx4 lr lr _ rfl ox3.rd ox4.rd (by omega)).mono ?_
              rintro e v34 ⟨rfl, hb34⟩
              replace k1 := cell_later hb34 k1
              replace k2 := cell_later hb34 k2
              replace k3 := cell_later hb34 k3
              replace k4 := cell_later hb34 k4
              replace k5 := cell_later hb34 k5
              replace k6 := cell_later hb34 k6
              replace k7 := cell_later hb34 k7
              replace k8 := cell_later hb34 k8
              replace k9 := cell_later hb34 k9
              replace k10 := cell_later hb34 k10
              replace k11 := cell_later hb34 k11
              replace kf0 := cell_later hb34 kf0
              replace kf1 := cell_later hb34 kf1
              replace k12 := cell_later hb34 k12
              replace k13 := cell_later hb34 k13
              replace ox := ox.bs hb34
              replace oy := oy.bs hb34
              replace ou := ou.bs hb34
              replace ox1 := ox1.bs hb34
              replace ox2 := ox2.bs hb34
              replace oe := oe.bs hb34
              replace ox3 := ox3.bs hb34
              replace ox4 := ox4.bs hb34
              replace of1 := of1.bs hb34
              replace ox5 := ox5.bs hb34
              replace ox6 := ox6.bs hb34
              replace og := og.bs hb34
              replace oi := oi.bs hb34
              replace oq := oq.bs hb34
              replace ox7 := ox7.bs hb34
              replace ox8 := ox8.bs hb34
              replace ha := ha.up hb34
              replace T := bs T hb34
              go_wp2_with fail
              refine (f6ints_eq mr.length X5 X6 dx5 dx6 mr _ rfl ox5.rd ox6.rd (by omega)).mono ?_
              rintro e v35 ⟨rfl, hb35⟩
              replace k1 := cell_later hb35 k1
              replace k2 := cell_later hb35 k2
              replace k3 := cell_later hb35 k3
              replace k4 := cell_later hb35 k4
              replace k5 := cell_later hb35 k5
              replace k6 := cell_later hb35 k6
              replace k7 := cell_later hb35 k7
              replace k8 := cell_later hb35 k8
              replace k9 := cell_later hb35 k9
              replace k10 := cell_later hb35 k10
              replace k11 := cell_later hb35 k11
              replace kf0 := cell_later hb35 kf0
              replace kf1 := cell_later hb35 kf1
              replace k12 := cell_later hb35 k12
              replace k13 := cell_later hb35 k13
              replace ox := ox.bs hb35
              replace oy := oy.bs hb35
              replace ou := ou.bs hb35
              replace ox1 := ox1.bs hb35
              replace ox2 := ox2.bs hb35
              replace oe := oe.bs hb35
              replace ox3 := ox3.bs hb35
              replace ox4 := ox4.bs hb35
              replace of1 := of1.bs hb35
              replace ox5 := ox5.bs hb35
              replace ox6 := ox6.bs hb35
              replace og := og.bs hb35
              replace oi := oi.bs hb35
              replace oq := oq.bs hb35
              replace ox7 := ox7.bs hb35
              replace ox8 := ox8.bs hb35
              replace ha := ha.up hb35
              replace T := bs T hb35
              go_wp2_with fail
              refine (spSameCard_eq X7 X8 dx7 dx8 tr tr _ rfl ox7.rd ox8.rd (by omega)).mono ?_
              rintro e v36 ⟨rfl, hb36⟩
              replace k1 := cell_later hb36 k1
              replace k2 := cell_later hb36 k2
              replace k3 := cell_later hb36 k3
              replace k4 := cell_later hb36 k4
              replace k5 := cell_later hb36 k5
              replace k6 := cell_later hb36 k6
              replace k7 := cell_later hb36 k7
              replace k8 := cell_later hb36 k8
              replace k9 := cell_later hb36 k9
              replace k10 := cell_later hb36 k10
              replace k11 := cell_later hb36 k11
              replace kf0 := cell_later hb36 kf0
              replace kf1 := cell_later hb36 kf1
              replace k12 := cell_later hb36 k12
              replace k13 := cell_later hb36 k13
              replace ox := ox.bs hb36
              replace oy := oy.bs hb36
              replace ou := ou.bs hb36
              replace ox1 := ox1.bs hb36
              replace ox2 := ox2.bs hb36
              replace oe := oe.bs hb36
              replace ox3 := ox3.bs hb36
              replace ox4 := ox4.bs hb36
              replace of1 := of1.bs hb36
              replace ox5 := ox5.bs hb36
              replace ox6 := ox6.bs hb36
              replace og := og.bs hb36
              replace oi := oi.bs hb36
              replace oq := oq.bs hb36
              replace ox7 := ox7.bs hb36
              replace ox8 := ox8.bs hb36
              replace ha := ha.up hb36
              replace T := bs T hb36
              clear n0 n1 n2 n3 n4 n5 n6 n7 n8
              clear k3 k4 k5 k6 k8 k9 k11 k13 ox2 ox4 ox5 ox6 ox8 ou oe of1 oq ox1 cou coe cof coq cox2 cox4 cox5 cox6 cox8 cox1 ha
              go_upto_if 220 with fail
              go_cut [40] (fun _ wx => Below v36.heap.size v36 wx)
              case first =>
               as_aux_lemma =>
                by_cases h3 : lc = 0
                · have j3 : (lc == 0) = true := beq_t h3
                  obtain ⟨q1, q2⟩ := HLF.out h3
                  obtain ⟨lq, hlq⟩ : ∃ lq, lq = lacedRes lr := ⟨_, rfl⟩
                  have hlq20 : lq.length ≤ 20 := by rw [hlq]; exact lacedRes_length lr
                  rw [← hlq] at q2
                  have HLQ := Lib.hid hlq
                  have Q1 := Lib.hid q1
                  have Q2 := Lib.hid q2
                  clear q1 q2 hlq h3
                  go_wp2_with fail
                  refine (LacedColumns_any X3 dx3 lr _ ox3.rd (by omega) cox3).mono ?_
                  rw [← HLQ.out, Q1.out]
                  rintro e u1 ⟨Y1, dy1, rfl, oy1, hbu1⟩
                  have HB1 := Lib.hid hbu1
                  have oy2 := Ob.of oy1
                  clear oy1 hbu1
                  go_wp2
                  go_loopw [42, 43] (fun f q wr => HasR lq zc u1 wr f q) (fun _ q _ => lq.length - (intOf q).toNat)
                  case atStart => exact ⟨0, Nat.zero_le _, rfl, rfl, b0 _⟩
                  case round =>
                    obtain ⟨wo, rfl⟩ : ∃ wo : World, wo = wr := ⟨_, rfl⟩
                    obtain ⟨k, hk, rfl, rfl, hbs⟩ := hrel
                    obtain ⟨r, hr⟩ : ∃ r, r = (lq.take k).any (· == zc) := ⟨_, rfl⟩
                    rw [← hr]
                    have HR := Lib.hid hr
                    clear hr
                    by_cases hlt : k < lq.length
                    · have i1 : (k : Int) < (lq.length : Int) := by omega
                      obtain ⟨b, off, hY, _, hc⟩ := (oy2.rd.up hbs).at_ hlt
                      subst hY
                      obtain ⟨vz, hvz⟩ : ∃ vz, vz = lq[k] := ⟨_, rfl⟩
                      obtain ⟨y, hy⟩ : ∃ y, y = (vz == zc) := ⟨_, rfl⟩
                      have h1 := hc k _ (ints_get lq k hlt)
                      rw [← hvz] at h1
                      have HNX := Lib.hid (show (lq.take (k + 1)).any (· == zc) = (r || y) by rw [any_step hlt, HR.out, hy, hvz])
                      have zy : (vz == zc) = y := hy.symm
                      have HBS := Lib.hid hbs
                      clear hc hvz hy hbs
                      cases hr2 : r
                      · rw [hr2] at HNX
                        clear hr2
                        go_wp2
                        go_roundw
                        case rel =>
                          have P : HasR lq zc u1 wo (.bool y) (.int .i64 ((k : Int) + 1)) := ⟨k + 1, by omega, by go_num, by rw [HNX.out]; rfl, HBS.out⟩
                          first | exact P | exact ⟨_, P, rfl⟩ | exact ⟨_, _, P, rfl, rfl⟩ | exact ⟨_, _, _, P, rfl, rfl, rfl⟩ | exact ⟨_, _, _, _, P, rfl, rfl, rfl, rfl⟩ | exact ⟨_, _, _, _, _, P, rfl, rfl, rfl, rfl, rfl⟩ | exact ⟨_, _, _, _, _, _, P, rfl, rfl, rfl, rfl, rfl, rfl⟩ | exact ⟨_, _, _, _, _, _, _, P, rfl, rfl, rfl, rfl, rfl, rfl, rfl⟩ | exact ⟨_, _, _, _, _, _, _, _, P, rfl, rfl, rfl, rfl, rfl, rfl, rfl, rfl⟩
                        case measure => (simp [intOf]; try omega)
                      · rw [hr2] at HNX
                        clear hr2 zy
                        go_wp2
                        go_roundw
                        case rel =>
                          have P : HasR lq zc u1 wo (.bool true) (.int .i64 ((k : Int) + 1)) := ⟨k + 1, by omega, by go_num, by rw [HNX.out]; rfl, HBS.out⟩
                          first | exact P | exact ⟨_, P, rfl⟩ | exact ⟨_, _, P, rfl, rfl⟩ | exact ⟨_, _, _, P, rfl, rfl, rfl⟩ | exact ⟨_, _, _, _, P, rfl, rfl, rfl, rfl⟩ | exact ⟨_, _, _, _, _, P, rfl, rfl, rfl, rfl, rfl⟩ | exact ⟨_, _, _, _, _, _, P, rfl, rfl, rfl, rfl, rfl, rfl⟩ | exact ⟨_, _, _, _, _, _, _, P, rfl, rfl, rfl, rfl, rfl, rfl, rfl⟩ | exact ⟨_, _, _, _, _, _, _, _, P, rfl, rfl, rfl, rfl, rfl, rfl, rfl, rfl⟩
                        case measure => (simp [intOf]; try omega)
                    · obtain rfl : k = lq.length := by omega
                      have hrt : r = true := by rw [HR.out, List.take_length]; exact Q2.out
                      subst hrt
                      go_wp2_with fail
                      go_meet
                      exact bs HB1.out hbs
                · have j3 : (lc == 0) = false := beq_f h3
                  go_wp2_with fail
                  go_meet
                  exact b0 _
              case rest =>
                as_aux_lemma =>
                  obtain ⟨v38, hv38⟩ : ∃ x : World, x = wc := ⟨_, rfl⟩
                  subst hv38
                  have hb38 := hcut
                  clear hcut
                  replace k1 := cell_later hb38 k1
                  replace k2 := cell_later hb38 k2
                  replace k7 := cell_later hb38 k7
                  replace k10 := cell_later hb38 k10
                  replace kf0 := cell_later hb38 kf0
                  replace kf1 := cell_later hb38 kf1
                  replace k12 := cell_later hb38 k12
                  replace ox := ox.bs hb38
                  replace oy := oy.bs hb38
                  replace ox3 := ox3.bs hb38
                  replace og := og.bs hb38
                  replace oi := oi.bs hb38
                  replace ox7 := ox7.bs hb38
                  replace T := bs T hb38
                  clear hb38
                  go_upto_if 248 with fail
                  go_cut [44] (fun _ wx => Below v38.heap.size v38 wx)
                  case first =>
                   as_aux_lemma =>
                    by_cases h3 : tc = 0
                    · have j3 : (tc == 0) = true := beq_t h3
                      obtain ⟨q1, q2⟩ := HTO.out h3
                      clear h3
                      go_wp2_with fail
                      refine (IsBlankField_good X7 dx7 tr fa fb _ q1 q2 ox7.rd (by omega) cox7).mono ?_
                      rintro e u1 ⟨rfl, hbu1⟩
                      clear q1 q2
                      go_wp2_with fail
                      go_meet
                      exact hbu1
                    · have j3 : (tc == 0) = false := beq_f h3
                      go_wp2_with fail
                      go_meet
                      exact b0 _
                  case rest =>
                    as_aux_lemma =>
                      obtain ⟨v39, hv39⟩ : ∃ x : World, x = wc := ⟨_, rfl⟩
                      subst hv39
                      have hb39 := hcut
                      clear hcut
                      replace k1 := cell_later hb39 k1
                      replace k2 := cell_later hb39 k2
                      replace k7 := cell_later hb39 k7
                      replace k10 := cell_later hb39 k10
                      replace kf0 := cell_later hb39 kf0
                      replace kf1 := cell_later hb39 kf1
                      replace k12 := cell_later hb39 k12
                      replace ox := ox.bs hb39
                      replace oy := oy.bs hb39
                      replace ox3 := ox3.bs hb39
                      replace og := og.bs hb39
                      replace oi := oi.bs hb39
                      replace ox7 := ox7.bs hb39
                      replace T := bs T hb39
                      clear hb39
                      go_upto_if 262 with fail
                      go_cut [47] (fun _ wx => Below v39.heap.size v39 wx)
                      case first =>
                       as_aux_lemma =>
                        by_cases h3 : nc = 0
                        · have j3 : (nc == 0) = true := beq_t h3
                          rw [j3]
                          have HK := Lib.hid (HNA.out h3)
                          clear h3
                          go_wp2
                          go_loopw [46, 47, 48] (fun q _ _ wr => NeaR gs.length v39 wr q) (fun q _ _ _ => gs.length - (intOf q).toNat)
                          case atStart => exact ⟨0, Nat.zero_le _, rfl, b0 _⟩
                          case round =>
                            obtain ⟨wo, rfl⟩ : ∃ wo : World, wo = wr := ⟨_, rfl⟩
                            obtain ⟨k, hk, rfl, hbs⟩ := hrel
                            by_cases hlt : k < gs.length
                            · have i1 : (k : Int) < (gs.length : Int) := by omega
                              have rG := og.rd.up hbs
                              obtain ⟨b, off, hG, _, hc⟩ := rG.at_ hlt
                              have d1 := hc k hlt
                              have rc := rG.card_at hlt
                              have hca := rG.cap_at hlt
                              have d2 := cell_later hbs k10
                              have ri := oi.rd.up hbs
                              subst hG
                              have l1 := fun x : Later wo => lat_cell x d1
                              have l2 := fun x : Later wo => lat_cell x d2
                              obtain ⟨p1, p2, p3⟩ := HK.out k hlt
                              obtain ⟨z, hz⟩ : ∃ z, z = distRes gs[k].xs is := ⟨_, rfl⟩
                              rw [← hz] at p2 p3
                              have hgk : gs[k].xs.length ≤ 1048576 := by have := HGD.out gs[k].xs (List.mem_map.2 ⟨gs[k], List.getElem_mem hlt, rfl⟩); omega
                              have HD := Lib.hid (show ∀ W : World, Rd W W.heap.size 1 gs[k].a gs[k].xs.length (ints gs[k].xs) → Rd W W.heap.size 1 I is.length (ints is) → Calls Try.prog 9 #[.agg #[.slice gs[k].a gs[k].xs.length gs[k].c], .agg #[.slice I is.length di]] W fun e w' => e = .returned (.tuple #[.int .i64 z, .int .i64 0]) ∧ Below W.heap.size W w' from fun W r1 r2 => by
                                have := DistanceOf_any gs[k].a gs[k].c gs[k].xs I di is W r1 hgk hca r2 (by omega) coi
                                rwa [← hz, p1] at this)
                              have m1 : ¬ z < nd := by omega
                              have M2 := Lib.hid (show ((k : Int) == na) = false ∨ ((k : Int) == na) = true ∧ (z != nd) = false by
                                by_cases e : (k : Int) = na
                                · exact .inr ⟨beq_t e, bne_f (p3 e)⟩
                                · exact .inl (beq_f e))
                              clear hc d1 d2 rG p1 p2 p3 hz
                              go_wp2_with fail
                              refine wp_region_later (by kernel_rfl) (by kernel_rfl) ?_
                              repeat (go_big_quiet_step ((go_at_call 9; exact lat_call (HD.out _ (lat_rd _ rc) (lat_rd _ ri)))))
                              refine wpQuiet_nil ?_
                              intro wt hbt
                              have HBT := Lib.hid (bs hbs hbt)
                              clear l1 l2 hbt rc ri hbs HD
                              rcases M2.out with m2 | ⟨m2, m3⟩
                              all_goals
                                clear M2
                                go_wp2
                                go_roundw
                                case rel =>
                                  have P : NeaR gs.length v39 wt (.int .i64 ((k : Int) + 1)) := ⟨k + 1, by omega, by go_num, HBT.out⟩
                                  first | exact P | exact ⟨_, P, rfl⟩ | exact ⟨_, _, P, rfl, rfl⟩ | exact ⟨_, _, _, P, rfl, rfl, rfl⟩ | exact ⟨_, _, _, _, P, rfl, rfl, rfl, rfl⟩ | exact ⟨_, _, _, _, _, P, rfl, rfl, rfl, rfl, rfl⟩ | exact ⟨_, _, _, _, _, _, P, rfl, rfl, rfl, rfl, rfl, rfl⟩ | exact ⟨_, _, _, _, _, _, _, P, rfl, rfl, rfl, rfl, rfl, rfl, rfl⟩ | exact ⟨_, _, _, _, _, _, _, _, P, rfl, rfl, rfl, rfl, rfl, rfl, rfl, rfl⟩
                                case measure => (simp [intOf]; try omega)
                            · obtain rfl : k = gs.length := by omega
                              go_wp2_with fail
                              go_meet
                              exact hbs
                        · have j3 : (nc == 0) = false := beq_f h3
                          go_wp2_with fail
                          go_meet
                          exact b0 _
                      case rest =>
                        as_aux_lemma =>
                          obtain ⟨v40, hv40⟩ : ∃ x : World, x = wc := ⟨_, rfl⟩
                          subst hv40
                          have hb40 := hcut
                          clear hcut
                          replace k1 := cell_later hb40 k1
                          replace k2 := cell_later hb40 k2
                          replace k7 := cell_later hb40 k7
                          replace k10 := cell_later hb40 k10
                          replace kf0 := cell_later hb40 kf0
                          replace kf1 := cell_later hb40 kf1
                          replace k12 := cell_later hb40 k12
                          replace ox := ox.bs hb40
                          replace oy := oy.bs hb40
                          replace ox3 := ox3.bs hb40
                          replace og := og.bs hb40
                          replace oi := oi.bs hb40
                          replace ox7 := ox7.bs hb40
                          replace T := bs T hb40
                          clear hb40
                          by_cases h3 : sc = 0
                          · have j3 : (sc != 0) = false := bne_f h3
                            have HSF := Lib.hid (shift_found (xs := xs) (ys := ys) (by rw [← Hsc.out]; exact h3))
                            rw [← Hsb.out] at HSF
                            have F1 := Lib.hid HSF.out.1
                            have F2 := Lib.hid HSF.out.2
                            clear h3
                            go_wp2_with fail
                            refine (ShiftCard_any B d xs sb _ ox.rd (by omega) cox).mono ?_
                            rw [F1.out, F2.out]
                            rintro e u1 ⟨Y1, dy1, rfl, oz1, hbu1⟩
                            replace oy := oy.bs hbu1
                            replace k2 := cell_later hbu1 k2
                            replace T := bs T hbu1
                            have oz := Ob.of oz1
                            have k14 := cell_new (w := u1) (cs := #[.slice Y1 ys.length dy1]) (e := 26) (j := 0) (H := u1.heap.size) rfl rfl
                            have hbu2 := ba (b0 u1) (.cells #[.slice Y1 ys.length dy1] 26)
                            replace oy := oy.bs hbu2
                            replace k2 := cell_later hbu2 k2
                            replace T := bs T hbu2
                            replace oz := oz.bs hbu2
                            clear hbu1 hbu2 oz1
                            go_wp2_with fail
                            refine (spSameCard_eq Y1 C dy1 g ys ys _ rfl oz.rd oy.rd (by omega)).mono ?_
                            rintro e u2 ⟨rfl, hbu3⟩
                            go_wp2
                            go_ret
                            exact ⟨rfl, bs T hbu3⟩
                          · have j3 : (sc != 0) = true := bne_t h3
                            go_wp2
                            go_ret
                            exact ⟨rfl, T⟩

set_option maxRecDepth 100000 in
theorem lawShifted_lifted (os : Os) (started : os.Started) (H : Type) (enc : TypeId × Value → H) :
    ReturnsInHanded {} Try.checked os 4 .any (Rows.fnShiftedSpec.pre6 enc Try.prog Try.f4 Rows.fnShiftedRow.domain false) (Rows.fnShiftedSpec.post enc Try.prog Try.f4 false true false false) := by
  refine returnsInHanded_of_change (C := Try.checked) lawOwn started (by kernel_rfl) Try.func4
    (ChangeSpec.witness6 (enc := enc) (C := Try.checked) false ⟨#[], #[.slice none 0 0], []⟩ 8 (by kernel_rfl) (by kernel_rfl) (by kernel_rfl) (by kernel_rfl)) ?_
  intro W base args ds gs before hval0 hW _ _
  have hval : ∀ (j : Nat) t v, Try.f4.params[j]? = some t → args[j]? = some v → Value.okWide Try.prog W .any base t v := hval0
  clear hval0
  have hW0 : DataW.Whole enc Try.prog Try.f4.params.toList Rows.fnShiftedSpec.vars false W args.toList ds gs before := hW
  clear hW
  have hW := hW0
  obtain ⟨p, q, hA, hV, _, _, _⟩ := hW
  rw [Try.params4] at hA hval
  obtain ⟨v0, vs0, d0, ds0, p0, q0, hargs, rfl, rfl, h0, hA0⟩ := trodAll_cons hA
  obtain ⟨rfl, rfl, rfl⟩ := trodAll_nil hA0
  have hargs2 : args = #[v0] := by cases args; simp_all
  clear hargs
  subst hargs2
  obtain ⟨A0, c0, bs0, rfl, hc0, hm0, r0⟩ := in_bytes Try.underlying22 Try.underlying5 (by kernel_rfl) (hval 0 22 v0 rfl rfl) h0
  have hcall := lawShifted_any A0 _ c0 bs0 W r0
  refine hcall.mono fun e W' ⟨he, hb⟩ => ⟨_, he, ?_⟩
  exact post_law (f := Try.f4) (s := Rows.fnShiftedSpec) hW0 rfl (tb := 4) rfl Try.underlying4 rfl lawLaid (by kernel_rfl) hb

theorem fnShifted_holds : Rows.FnShiftedSaid :=
  OpenClaim.holds_of_wide 4 Try.f4 rfl rfl rfl rfl rfl rfl rfl ⟨rfl, rfl, rfl, rfl, rfl⟩ rfl rfl rfl rfl rfl (by kernel_rfl) Try.func4 (by kernel_rfl)
    (of_decide_eq_true (by kernel_rfl)) (by unfold Func.isWrapper; first | (rw [if_pos (by decide +kernel)]; kernel_rfl) | (rw [if_neg (by decide +kernel)]; exact ⟨rfl, rfl⟩))
    (fun os started H enc _ => lawShifted_lifted os started H enc)
#print axioms fnShifted_holds
end Go.Proofs.Ythbgdnjlmaadjaa
