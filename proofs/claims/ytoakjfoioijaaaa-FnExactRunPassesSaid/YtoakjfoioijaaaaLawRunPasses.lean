/- The law FnExactRunPasses answers true at every input, and its arguments stay as they were; conditions: none. -/
import Derived.Test.YtoakjfoioijaaaaRows
import Derived.Test.YtoakjfoioijaaaaOpen
import Derived.Test.YtoakjfoioijaaaaLawBase
import Derived.Deep.RegionHeld3
import Derived.Deep.DeepCutAuto
import Derived.Test.YtoakjfoioijaaaaRun
import Derived.Test.YtoakjfoioijaaaaHarnDeck
import Derived.Test.YtoakjfoioijaaaaHarnPass
import Derived.Test.YtoakjfoioijaaaaOpenDeck
namespace Go.Proofs.Ytoakjfoioijaaaa
open Go.RowKit Go.ChangeShapes Go.WideShapes Go.ChangeAt

set_option maxRecDepth 100000 in
theorem lawRunPasses_no0 (D0 : Option Addr) (c0 : Nat) (hs0 : List Hd) (A1 : Option Addr) (c1 : Nat) (ps1 : List (Int × Int)) (w : World) (r0 : RdD w w.heap.size D0 hs0) (_r1 : Rd w w.heap.size 2 A1 ps1.length (prs ps1)) (hn : ¬ (hs0.length + tot hs0) ≤ 1048576) (hm : hs0.length ≤ maxLen ∧ ∀ h ∈ hs0, h.xs.length ≤ maxLen) :
    Calls Try.prog 10 #[.slice D0 hs0.length c0, .slice A1 ps1.length c1] w fun e w' => e = .returned (.bool true) ∧ Below w.heap.size w w' := by
  go_enter Try.func10, Try.ntmps10
  have T0 : Below w.heap.size w w := b0 w
  go_wp2_with fail
  refine (szCardS_no _ _ _ _ _ ((r0.below T0).more T0.size) (by omega) (by omega) hm (by omega)).mono ?_; rintro e w1 ⟨rfl, hb1⟩
  have T1 := bs T0 hb1
  go_wp2
  go_ret
  exact ⟨rfl, T1⟩

set_option maxRecDepth 100000 in
theorem lawRunPasses_no1 (D0 : Option Addr) (c0 : Nat) (hs0 : List Hd) (A1 : Option Addr) (c1 : Nat) (ps1 : List (Int × Int)) (w : World) (r0 : RdD w w.heap.size D0 hs0) (_r1 : Rd w w.heap.size 2 A1 ps1.length (prs ps1)) (hl : (hs0.length + tot hs0) ≤ 1048576) (hn : ¬ (hs0.length + tot hs0) + ps1.length ≤ 1048576) (hm : ps1.length ≤ maxLen) :
    Calls Try.prog 10 #[.slice D0 hs0.length c0, .slice A1 ps1.length c1] w fun e w' => e = .returned (.bool true) ∧ Below w.heap.size w w' := by
  go_enter Try.func10, Try.ntmps10
  have T0 : Below w.heap.size w w := b0 w
  go_wp2_with fail
  refine (szCardS_yes _ _ _ _ _ ((r0.below T0).more T0.size) (by omega) (by omega)).mono ?_; rintro e w1 ⟨rfl, hb1⟩
  have T1 := bs T0 hb1
  go_wp2_with fail
  refine (szPassS_no_L _ _ _ _ _ (by omega) (by omega) hm (by omega)).mono ?_; rintro e w2 ⟨rfl, hb2⟩
  have T2 := bs T1 hb2
  go_wp2
  go_ret
  exact ⟨rfl, T2⟩

set_option maxRecDepth 100000 in
set_option maxHeartbeats 8000000 in
theorem lawRunPasses_yes (D0 : Option Addr) (c0 : Nat) (hs0 : List Hd) (A1 : Option Addr) (c1 : Nat) (ps1 : List (Int × Int)) (w : World) (r0 : RdD w w.heap.size D0 hs0) (r1 : Rd w w.heap.size 2 A1 ps1.length (prs ps1)) (hl : (hs0.length + tot hs0) + ps1.length ≤ 1048576) :
    Calls Try.prog 10 #[.slice D0 hs0.length c0, .slice A1 ps1.length c1] w fun e w' => e = .returned (.bool true) ∧ Below w.heap.size w w' := by
  go_enter Try.func10, Try.ntmps10
  have T0 : Below w.heap.size w w := b0 w
  have zt0 := T0.size
  replace r0 := r0.below T0
  replace r1 := r1.below T0
  go_wp2_with fail
  refine (szCardS_yes _ _ _ _ _ (r0.more zt0) (by omega) (by omega)).mono ?_; rintro e w1 ⟨rfl, hb1⟩
  have T1 := bs T0 hb1
  have z1 := hb1.size
  replace r0 := r0.bs zt0 hb1
  replace r1 := r1.bs zt0 hb1
  have zt1 := T1.size
  clear T0 zt0 hb1
  go_wp2_with fail
  refine (szPassS_yes_L _ _ _ _ _ (by omega) (by omega)).mono ?_; rintro e w2 ⟨rfl, hb2⟩
  have T2 := bs T1 hb2
  have z2 := hb2.size
  replace r0 := r0.bs zt1 hb2
  replace r1 := r1.bs zt1 hb2
  have zt2 := T2.size
  clear T1 zt1 hb2
  go_wp2_with fail
  refine (toCardS_any _ _ _ _ (r0.more zt2) (by omega)).mono ?_; rintro e w3 ⟨g3, gs3, rfl, hcs3, ho3, hb3⟩
  have T3 := bs T2 hb3
  have z3 := hb3.size
  replace r0 := r0.bs zt2 hb3
  replace r1 := r1.bs zt2 hb3
  have zt3 := T3.size
  clear T2 zt2 hb3
  have o_t1 := ho3
  clear ho3
  have bd_t1 : gs3.length + tot gs3 ≤ 1048576 := by have h1 := tot_cards hcs3; have h2 := (cards_same hcs3).1; omega
  go_wp2_with fail
  refine (toPassS_any _ _ _ _ (r1.more zt3) (by omega)).mono ?_; rintro e w4 ⟨g4, rfl, ho4, hb4⟩
  have T4 := bs T3 hb4
  have z4 := hb4.size
  replace r0 := r0.bs zt3 hb4
  replace r1 := r1.bs zt3 hb4
  replace o_t1 := o_t1.bs hb4
  have zt4 := T4.size
  clear T3 zt3 hb4
  have o_t2 := Ob.of ho4
  clear ho4
  go_wp2_with fail
  refine (spRunPasses_any (some ⟨g3, 0, none⟩) _ gs3 (cards hs0) (some ⟨g4, 0, none⟩) _ (ps1) _ o_t1.rd hcs3 bd_t1 o_t1.cap.1 o_t2.rd (by omega) ).mono ?_; rintro e w5 ⟨Aw0, cw0, Gw0, rfl, hcw0, how0, hb5⟩
  have T5 := bs T4 hb5
  have z5 := hb5.size
  replace r0 := r0.bs zt4 hb5
  replace r1 := r1.bs zt4 hb5
  replace o_t1 := o_t1.bs hb5
  replace o_t2 := o_t2.bs hb5
  have zt5 := T5.size
  clear T4 zt4 hb5
  have o_w0 := how0
  clear how0
  have bd_w0 : Gw0.length + tot Gw0 ≤ 1048576 := by have := runRes_bound _ _ hcw0; omega
  clear o_t1
  clear o_t2
  go_wp2_with fail
  refine (toCardS_any _ _ _ _ (r0.more zt5) (by omega)).mono ?_; rintro e w6 ⟨g6, gs6, rfl, hcs6, ho6, hb6⟩
  have T6 := bs T5 hb6
  have z6 := hb6.size
  replace r0 := r0.bs zt5 hb6
  replace r1 := r1.bs zt5 hb6
  replace o_w0 := o_w0.bs hb6
  have zt6 := T6.size
  clear T5 zt5 hb6
  have o_t3 := ho6
  clear ho6
  have bd_t3 : gs6.length + tot gs6 ≤ 1048576 := by have h1 := tot_cards hcs6; have h2 := (cards_same hcs6).1; omega
  have o_x0 := o_t3
  clear o_t3
  go_wp2_with fail
  refine (toPassS_any _ _ _ _ (r1.more zt6) (by omega)).mono ?_; rintro e w7 ⟨g7, rfl, ho7, hb7⟩
  have T7 := bs T6 hb7
  have z7 := hb7.size
  replace r0 := r0.bs zt6 hb7
  replace r1 := r1.bs zt6 hb7
  replace o_w0 := o_w0.bs hb7
  replace o_x0 := o_x0.bs hb7
  have zt7 := T7.size
  clear T6 zt6 hb7
  have o_t4 := Ob.of ho7
  clear ho7
  have o_x1 := o_t4
  clear o_t4
  go_wp2_with fail
  refine (RunPasses_any (some ⟨g6, 0, none⟩) _ gs6 (cards hs0) (some ⟨g7, 0, none⟩) _ (ps1) _ o_x0.rd hcs6 bd_t3 o_x0.cap.1 o_x1.rd (by omega) ).mono ?_; rintro e w8 ⟨Ag0, cg0, Gg0, rfl, hcg0, hog0, hb8⟩
  have T8 := bs T7 hb8
  have z8 := hb8.size
  replace r0 := r0.bs zt7 hb8
  replace r1 := r1.bs zt7 hb8
  replace o_w0 := o_w0.bs hb8
  replace o_x0 := o_x0.bs hb8
  replace o_x1 := o_x1.bs hb8
  have zt8 := T8.size
  clear T7 zt7 hb8
  have o_g0 := hog0
  clear hog0
  have bd_g0 : Gg0.length + tot Gg0 ≤ 1048576 := by have := runRes_bound _ _ hcg0; omega
  go_wp2_with fail
  refine (eqCardS_same _ _ _ _ Gg0 Gw0 _ o_g0.rd o_w0.rd (hcg0.trans hcw0.symm) bd_g0).mono ?_; rintro e w9 ⟨rfl, hb9⟩
  have T9 := bs T8 hb9
  have z9 := hb9.size
  replace r0 := r0.bs zt8 hb9
  replace r1 := r1.bs zt8 hb9
  replace o_w0 := o_w0.bs hb9
  replace o_x0 := o_x0.bs hb9
  replace o_x1 := o_x1.bs hb9
  replace o_g0 := o_g0.bs hb9
  have zt9 := T9.size
  clear T8 zt8 hb9
  go_wp2_with fail
  refine (toCardS_any _ _ _ _ (r0.more zt9) (by omega)).mono ?_; rintro e w10 ⟨g10, gs10, rfl, hcs10, ho10, hb10⟩
  have T10 := bs T9 hb10
  have z10 := hb10.size
  replace r0 := r0.bs zt9 hb10
  replace r1 := r1.bs zt9 hb10
  replace o_w0 := o_w0.bs hb10
  replace o_x0 := o_x0.bs hb10
  replace o_x1 := o_x1.bs hb10
  replace o_g0 := o_g0.bs hb10
  have zt10 := T10.size
  clear T9 zt9 hb10
  have o_t5 := ho10
  clear ho10
  have bd_t5 : gs10.length + tot gs10 ≤ 1048576 := by have h1 := tot_cards hcs10; have h2 := (cards_same hcs10).1; omega
  go_wp2_with fail
  refine (eqCardS_same _ _ _ _ gs6 gs10 _ o_x0.rd o_t5.rd (hcs6.trans hcs10.symm) bd_t3).mono ?_; rintro e w11 ⟨rfl, hb11⟩
  have T11 := bs T10 hb11
  have z11 := hb11.size
  replace r0 := r0.bs zt10 hb11
  replace r1 := r1.bs zt10 hb11
  replace o_w0 := o_w0.bs hb11
  replace o_x0 := o_x0.bs hb11
  replace o_x1 := o_x1.bs hb11
  replace o_g0 := o_g0.bs hb11
  replace o_t5 := o_t5.bs hb11
  have zt11 := T11.size
  clear T10 zt10 hb11
  clear o_t5
  go_wp2_with fail
  refine (toPassS_any _ _ _ _ (r1.more zt11) (by omega)).mono ?_; rintro e w12 ⟨g12, rfl, ho12, hb12⟩
  have T12 := bs T11 hb12
  have z12 := hb12.size
  replace r0 := r0.bs zt11 hb12
  replace r1 := r1.bs zt11 hb12
  replace o_w0 := o_w0.bs hb12
  replace o_x0 := o_x0.bs hb12
  replace o_x1 := o_x1.bs hb12
  replace o_g0 := o_g0.bs hb12
  have zt12 := T12.size
  clear T11 zt11 hb12
  have o_t6 := Ob.of ho12
  clear ho12
  go_wp2_with fail
  refine (eqPassS_same _ _ _ _ (ps1) _ o_x1.rd o_t6.rd (by omega)).mono ?_; rintro e w13 ⟨rfl, hb13⟩
  have T13 := bs T12 hb13
  have z13 := hb13.size
  replace r0 := r0.bs zt12 hb13
  replace r1 := r1.bs zt12 hb13
  replace o_w0 := o_w0.bs hb13
  replace o_x0 := o_x0.bs hb13
  replace o_x1 := o_x1.bs hb13
  replace o_g0 := o_g0.bs hb13
  replace o_t6 := o_t6.bs hb13
  have zt13 := T13.size
  clear T12 zt12 hb13
  clear o_t6
  go_wp2_with fail
  refine (markCardS_any _ _ _ _ _ _ _ o_x0 bd_t3 (by omega) (by omega)).mono ?_; rintro e w14 ⟨rfl, ho14, hg14⟩
  have cg14 := hg14
  have z14 := cg14.size
  have T14 := cg14.below T13 (by omega) zt13
  replace r0 := cg14.rdD r0 (by omega) zt13
  replace r1 := cg14.rd r1 (by omega) zt13
  replace o_w0 := o_w0.chg cg14 (by omega)
  replace o_x1 := o_x1.chg cg14 (by omega)
  replace o_g0 := o_g0.chg cg14 (by omega)
  replace o_x0 := ho14
  clear cg14 hg14 ho14
  have zt14 := T14.size
  clear T13 zt13
  go_wp2_with fail
  refine (markPassS_any _ _ _ _ _ _ _ o_x1.1 (by omega) (by omega) (by omega)).mono ?_; rintro e w15 ⟨rfl, ho15, hg15⟩
  have cg15 := o_x1.turns hg15
  have z15 := cg15.size
  have T15 := cg15.below T14 (by omega) zt14
  replace r0 := cg15.rdD r0 (by omega) zt14
  replace r1 := cg15.rd r1 (by omega) zt14
  replace o_w0 := o_w0.chg cg15 (by omega)
  replace o_x0 := o_x0.chg cg15 (by omega)
  replace o_g0 := o_g0.chg cg15 (by omega)
  replace o_x1 := o_x1.marked ho15
  clear cg15 hg15 ho15
  have zt15 := T15.size
  clear T14 zt14
  go_wp2_with fail
  refine (eqCardS_same _ _ _ _ Gg0 Gw0 _ o_g0.rd o_w0.rd (hcg0.trans hcw0.symm) bd_g0).mono ?_; rintro e w16 ⟨rfl, hb16⟩
  have T16 := bs T15 hb16
  have z16 := hb16.size
  replace r0 := r0.bs zt15 hb16
  replace r1 := r1.bs zt15 hb16
  replace o_w0 := o_w0.bs hb16
  replace o_x0 := o_x0.bs hb16
  replace o_x1 := o_x1.bs hb16
  replace o_g0 := o_g0.bs hb16
  have zt16 := T16.size
  clear T15 zt15 hb16
  go_wp2_with fail
  refine (markCardS_any _ _ _ _ _ _ _ o_g0 bd_g0 (by omega) (by omega)).mono ?_; rintro e w17 ⟨rfl, ho17, hg17⟩
  have cg17 := hg17
  have z17 := cg17.size
  have T17 := cg17.below T16 (by omega) zt16
  replace r0 := cg17.rdD r0 (by omega) zt16
  replace r1 := cg17.rd r1 (by omega) zt16
  replace o_w0 := o_w0.chg cg17 (by omega)
  replace o_x0 := o_x0.chg cg17 (by omega)
  replace o_x1 := o_x1.chg cg17 (by omega)
  replace o_g0 := ho17
  clear cg17 hg17 ho17
  have zt17 := T17.size
  clear T16 zt16
  go_wp2_with fail
  refine (heldCardS_any _ _ Gg0 _ _ o_g0.rd bd_g0 (by omega) (by omega)).mono ?_; rintro e w18 ⟨rfl, hb18⟩
  have T18 := bs T17 hb18
  have z18 := hb18.size
  replace r0 := r0.bs zt17 hb18
  replace r1 := r1.bs zt17 hb18
  replace o_w0 := o_w0.bs hb18
  replace o_x0 := o_x0.bs hb18
  replace o_x1 := o_x1.bs hb18
  replace o_g0 := o_g0.bs hb18
  have zt18 := T18.size
  clear T17 zt17 hb18
  go_wp2_with fail
  refine (toCardS_any _ _ _ _ (r0.more zt18) (by omega)).mono ?_; rintro e w19 ⟨g19, gs19, rfl, hcs19, ho19, hb19⟩
  have T19 := bs T18 hb19
  have z19 := hb19.size
  replace r0 := r0.bs zt18 hb19
  replace r1 := r1.bs zt18 hb19
  replace o_w0 := o_w0.bs hb19
  replace o_x0 := o_x0.bs hb19
  replace o_x1 := o_x1.bs hb19
  replace o_g0 := o_g0.bs hb19
  have zt19 := T19.size
  clear T18 zt18 hb19
  have o_t7 := ho19
  clear ho19
  have bd_t7 : gs19.length + tot gs19 ≤ 1048576 := by have h1 := tot_cards hcs19; have h2 := (cards_same hcs19).1; omega
  go_wp2_with fail
  refine (toPassS_any _ _ _ _ (r1.more zt19) (by omega)).mono ?_; rintro e w20 ⟨g20, rfl, ho20, hb20⟩
  have T20 := bs T19 hb20
  have z20 := hb20.size
  replace r0 := r0.bs zt19 hb20
  replace r1 := r1.bs zt19 hb20
  replace o_w0 := o_w0.bs hb20
  replace o_x0 := o_x0.bs hb20
  replace o_x1 := o_x1.bs hb20
  replace o_g0 := o_g0.bs hb20
  replace o_t7 := o_t7.bs hb20
  have zt20 := T20.size
  clear T19 zt19 hb20
  have o_t8 := Ob.of ho20
  clear ho20
  go_wp2_with fail
  refine (RunPasses_any (some ⟨g19, 0, none⟩) _ gs19 (cards hs0) (some ⟨g20, 0, none⟩) _ (ps1) _ o_t7.rd hcs19 bd_t7 o_t7.cap.1 o_t8.rd (by omega) ).mono ?_; rintro e w21 ⟨Ah0, ch0, Gh0, rfl, hch0, hoh0, hb21⟩
  have T21 := bs T20 hb21
  have z21 := hb21.size
  replace r0 := r0.bs zt20 hb21
  replace r1 := r1.bs zt20 hb21
  replace o_w0 := o_w0.bs hb21
  replace o_x0 := o_x0.bs hb21
  replace o_x1 := o_x1.bs hb21
  replace o_g0 := o_g0.bs hb21
  replace o_t7 := o_t7.bs hb21
  replace o_t8 := o_t8.bs hb21
  have zt21 := T21.size
  clear T20 zt20 hb21
  have o_h0 := hoh0
  clear hoh0
  have bd_h0 : Gh0.length + tot Gh0 ≤ 1048576 := by have := runRes_bound _ _ hch0; omega
  clear o_t7
  clear o_t8
  go_wp2_with fail
  refine (eqCardS_same _ _ _ _ Gh0 Gw0 _ o_h0.rd o_w0.rd (hch0.trans hcw0.symm) bd_h0).mono ?_; rintro e w22 ⟨rfl, hb22⟩
  have T22 := bs T21 hb22
  have z22 := hb22.size
  replace r0 := r0.bs zt21 hb22
  replace r1 := r1.bs zt21 hb22
  replace o_w0 := o_w0.bs hb22
  replace o_x0 := o_x0.bs hb22
  replace o_x1 := o_x1.bs hb22
  replace o_g0 := o_g0.bs hb22
  replace o_h0 := o_h0.bs hb22
  have zt22 := T22.size
  clear T21 zt21 hb22
  go_wp2_with fail
  refine (heldCardS_any _ _ Gg0 _ _ o_g0.rd bd_g0 (by omega) (by omega)).mono ?_; rintro e w23 ⟨rfl, hb23⟩
  have T23 := bs T22 hb23
  have z23 := hb23.size
  replace r0 := r0.bs zt22 hb23
  replace r1 := r1.bs zt22 hb23
  replace o_w0 := o_w0.bs hb23
  replace o_x0 := o_x0.bs hb23
  replace o_x1 := o_x1.bs hb23
  replace o_g0 := o_g0.bs hb23
  replace o_h0 := o_h0.bs hb23
  have zt23 := T23.size
  clear T22 zt22 hb23
  go_wp2
  go_ret
  exact ⟨rfl, T23⟩

set_option maxRecDepth 100000 in
theorem lawRunPasses_lifted (os : Os) (started : os.Started) (H : Type) (enc : TypeId × Value → H) :
    ReturnsInHanded {} Try.checked os 10 .any (Rows.fnExactRunPassesSpec.pre6 enc Try.prog Try.f10 Rows.fnExactRunPassesRow.domain false) (Rows.fnExactRunPassesSpec.post enc Try.prog Try.f10 false true false false) := by
  refine returnsInHanded_of_change (C := Try.checked) lawOwn started (by kernel_rfl) Try.func10
    (ChangeSpec.witness6 (enc := enc) (C := Try.checked) false ⟨#[], #[.slice none 0 0, .slice none 0 0], []⟩ 8 (by kernel_rfl) (by kernel_rfl) (by kernel_rfl) (by kernel_rfl)) ?_
  intro W base args ds gs before hval0 hW _ _
  have hval : ∀ (j : Nat) t v, Try.f10.params[j]? = some t → args[j]? = some v → Value.okWide Try.prog W .any base t v := hval0
  clear hval0
  have hW0 : DataW.Whole enc Try.prog Try.f10.params.toList Rows.fnExactRunPassesSpec.vars false W args.toList ds gs before := hW
  clear hW
  have hW := hW0
  obtain ⟨p, q, hA, hV, _, _, _⟩ := hW
  rw [Try.params10] at hA hval
  obtain ⟨v0, vs0, d0, ds0, p0, q0, hargs, rfl, rfl, h0, hA0⟩ := trodAll_cons hA
  obtain ⟨v1, vs1, d1, ds1, p1, q1, rfl, rfl, rfl, h1, hA1⟩ := trodAll_cons hA0
  obtain ⟨rfl, rfl, rfl⟩ := trodAll_nil hA1
  have hargs2 : args = #[v0, v1] := by cases args; simp_all
  clear hargs
  subst hargs2
  obtain ⟨D0, c0, hs0, rfl, hc0, hm0, r0, hz0⟩ := in_deck Try.underlying66 Try.underlying24 (by kernel_rfl) (by kernel_rfl) rfl Try.underlying22 Try.underlying2 (by kernel_rfl) (hval 0 66 v0 rfl rfl) h0
  obtain ⟨A1, c1, ps1, rfl, hc1, hm1, r1, hz1⟩ := in_pairs Try.underlying56 Try.underlying74 (by kernel_rfl) (by kernel_rfl) rfl rfl Try.underlying2 Try.underlying2 (hval 1 56 v1 rfl rfl) h1
  have hcall : Calls Try.prog 10 #[.slice D0 hs0.length c0, .slice A1 ps1.length c1] W fun e W' => e = .returned (.bool true) ∧ Below W.heap.size W W' := by
    by_cases s0 : (hs0.length + tot hs0) ≤ 1048576
    case neg => exact lawRunPasses_no0 D0 c0 hs0 A1 c1 ps1 W r0 r1  s0 ⟨by omega, fun h hh => Nat.le_trans (r0.cap h hh) (hz0 h hh).1⟩
    by_cases s1 : (hs0.length + tot hs0) + ps1.length ≤ 1048576
    case neg => exact lawRunPasses_no1 D0 c0 hs0 A1 c1 ps1 W r0 r1 s0 s1 (by omega)
    exact lawRunPasses_yes D0 c0 hs0 A1 c1 ps1 W r0 r1 s1
  refine hcall.mono fun e W' ⟨he, hb⟩ => ⟨_, he, ?_⟩
  exact post_law (f := Try.f10) (s := Rows.fnExactRunPassesSpec) hW0 rfl (tb := 4) rfl Try.underlying4 rfl lawLaid (by kernel_rfl) hb

theorem fnExactRunPasses_holds : Rows.FnExactRunPassesSaid :=
  OpenClaim.holds_of_wide 10 Try.f10 rfl rfl rfl rfl rfl rfl rfl ⟨rfl, rfl, rfl, rfl, rfl⟩ rfl rfl rfl rfl rfl (by kernel_rfl) Try.func10 (by kernel_rfl)
    (of_decide_eq_true (by kernel_rfl)) (by unfold Func.isWrapper; first | (rw [if_pos (by decide +kernel)]; kernel_rfl) | (rw [if_neg (by decide +kernel)]; exact ⟨rfl, rfl⟩))
    (fun os started H enc _ => lawRunPasses_lifted os started H enc)
#print axioms fnExactRunPasses_holds
end Go.Proofs.Ytoakjfoioijaaaa
