/- The law FnExactFewestPasses answers true at every input, and its arguments stay as they were; conditions: none. -/
import Derived.Test.YtkcnahjgkhgebaaGreatRows
import Derived.Test.YtkcnahjgkhgebaaGreatOpen
import Derived.Test.YtkcnahjgkhgebaaGreatLawBase
import Derived.Deep.RegionHeld3
import Derived.Deep.DeepCutAuto
import Derived.Test.YtkcnahjgkhgebaaGreatFewImpl
import Derived.Test.YtkcnahjgkhgebaaGreatHarnDeck
import Derived.Test.YtkcnahjgkhgebaaGreatHarnPass
import Derived.Test.YtkcnahjgkhgebaaGreatOpenDeck
namespace Go.Proofs.YtkcnahjgkhgebaaGreat
open Go.RowKit Go.ChangeShapes Go.WideShapes Go.ChangeAt

set_option maxRecDepth 100000 in
theorem lawFewestPasses_no0 (D0 : Option Addr) (c0 : Nat) (hs0 : List Hd) (fa1 fb1 : Int) (w : World) (r0 : RdD w w.heap.size D0 hs0) (hn : ¬ (hs0.length + tot hs0) ≤ 1048576) (hm : hs0.length ≤ maxLen ∧ ∀ h ∈ hs0, h.xs.length ≤ maxLen) :
    Calls Tryz.prog 3 #[.slice D0 hs0.length c0, .agg #[.int .i64 fa1, .int .i64 fb1]] w fun e w' => e = .returned (.bool true) ∧ Below w.heap.size w w' := by
  go_enter Tryz.func3, Tryz.ntmps3
  have T0 : Below w.heap.size w (w.alloc (.cells #[.int .i64 fa1, .int .i64 fb1] 24)) := ba (b0 w) _
  have kb0_0 : World.cell? (w.alloc (.cells #[.int .i64 fa1, .int .i64 fb1] 24)) ⟨w.heap.size, 0, none⟩ = some (.int .i64 fa1) := by simp
  have kb0_1 : World.cell? (w.alloc (.cells #[.int .i64 fa1, .int .i64 fb1] 24)) ⟨w.heap.size, 1, none⟩ = some (.int .i64 fb1) := by simp
  go_wp2_with fail
  refine (szCardS_no _ _ _ _ _ ((r0.below T0).more T0.size) (by omega) (by omega) hm (by omega)).mono ?_; rintro e w1 ⟨rfl, hb1⟩
  have T1 := bs T0 hb1
  go_wp2
  go_ret
  exact ⟨rfl, T1⟩

set_option maxRecDepth 100000 in
set_option maxHeartbeats 8000000 in
theorem lawFewestPasses_yes (D0 : Option Addr) (c0 : Nat) (hs0 : List Hd) (fa1 fb1 : Int) (w : World) (r0 : RdD w w.heap.size D0 hs0) (hl : (hs0.length + tot hs0) ≤ 1048576) :
    Calls Tryz.prog 3 #[.slice D0 hs0.length c0, .agg #[.int .i64 fa1, .int .i64 fb1]] w fun e w' => e = .returned (.bool true) ∧ Below w.heap.size w w' := by
  have hr0 : (fewR (cards hs0) fa1 fb1).length ≤ 1048576 := by have := fewR_length (cards hs0) fa1 fb1; omega
  go_enter Tryz.func3, Tryz.ntmps3
  have T0 : Below w.heap.size w (w.alloc (.cells #[.int .i64 fa1, .int .i64 fb1] 24)) := ba (b0 w) _
  have zt0 := T0.size
  have kb0_0 : World.cell? (w.alloc (.cells #[.int .i64 fa1, .int .i64 fb1] 24)) ⟨w.heap.size, 0, none⟩ = some (.int .i64 fa1) := by simp
  have kb0_1 : World.cell? (w.alloc (.cells #[.int .i64 fa1, .int .i64 fb1] 24)) ⟨w.heap.size, 1, none⟩ = some (.int .i64 fb1) := by simp
  replace r0 := r0.below T0
  go_wp2_with fail
  refine (szCardS_yes _ _ _ _ _ (r0.more zt0) (by omega) (by omega)).mono ?_; rintro e w1 ⟨rfl, hb1⟩
  have T1 := bs T0 hb1
  have z1 := hb1.size
  simp only [World.size_alloc] at z1
  replace r0 := r0.bs zt0 hb1
  replace kb0_0 := cell_later hb1 kb0_0
  replace kb0_1 := cell_later hb1 kb0_1
  have zt1 := T1.size
  clear T0 zt0 hb1
  go_wp2_with fail
  go_region_held3 (fun w' => w'.cell? ⟨w.heap.size, 0, none⟩ = some (.int .i64 fa1) ∧ w'.cell? ⟨w.heap.size, 1, none⟩ = some (.int .i64 fb1)) (first | exact ⟨kb0_0, kb0_1⟩ | go_keep)
    (first
      | (go_at_call 7; refine (toCardS_any _ _ _ _ ?_ ?_).mono ?_; (first | exact (r0.more zt1) | exact ((r0.more zt1)).drew); (omega); rintro e w2 ⟨g2, gs2, rfl, hcs2, ho2, hb2⟩; have hb2 : Below w1.heap.size w1 w2 := ⟨hb2.os, hb2.tape, hb2.output, hb2.size, hb2.block⟩; have ho2 : ObD w2 w1.heap.size _ _ _ _ _ _ := ho2; have T2 := bs T1 hb2; have z2 := hb2.size; replace r0 := r0.bs zt1 hb2; replace kb0_0 := cell_later hb2 kb0_0; replace kb0_1 := cell_later hb2 kb0_1; have zt2 := T2.size; clear T1 zt1 hb2; have o_t1 := ho2; clear ho2; have bd_t1 : gs2.length + tot gs2 ≤ 1048576 := (by have h1 := tot_cards hcs2; have h2 := (cards_same hcs2).1; omega))
      | (go_at_call 8; refine (toField_any _ _ _).mono ?_; rintro e w3 ⟨rfl, hb3⟩; have hb3 : Below w2.heap.size w2 w3 := ⟨hb3.os, hb3.tape, hb3.output, hb3.size, hb3.block⟩; have T3 := bs T2 hb3; have z3 := hb3.size; replace r0 := r0.bs zt2 hb3; replace o_t1 := o_t1.bs hb3; replace kb0_0 := cell_later hb3 kb0_0; replace kb0_1 := cell_later hb3 kb0_1; have zt3 := T3.size; clear T2 zt2 hb3)
      | (go_at_call 6; refine (spFewestPasses_any (some ⟨g2, 0, none⟩) _ gs2 (cards hs0) fa1 fb1 _ ?_ hcs2 bd_t1 ?_).mono ?_; (first | exact o_t1.rd | exact (o_t1.rd).drew); (exact o_t1.cap.1); rintro e w4 ⟨Aw0, cw0, rfl, how0, hb4⟩; have hb4 : Below w3.heap.size w3 w4 := ⟨hb4.os, hb4.tape, hb4.output, hb4.size, hb4.block⟩; have how0 : World.ownsRow w4 w3.heap.size _ _ _ _ _ := how0; have T4 := bs T3 hb4; have z4 := hb4.size; replace r0 := r0.bs zt3 hb4; replace o_t1 := o_t1.bs hb4; replace kb0_0 := cell_later hb4 kb0_0; replace kb0_1 := cell_later hb4 kb0_1; have zt4 := T4.size; clear T3 zt3 hb4; have o_w0 := Ob.of how0; clear how0)
    )
  clear o_t1
  go_wp2_with fail
  refine (toCardS_any _ _ _ _ (r0.more zt4) (by omega)).mono ?_; rintro e w5 ⟨g5, gs5, rfl, hcs5, ho5, hb5⟩
  have T5 := bs T4 hb5
  have z5 := hb5.size
  replace r0 := r0.bs zt4 hb5
  replace o_w0 := o_w0.bs hb5
  replace kb0_0 := cell_later hb5 kb0_0
  replace kb0_1 := cell_later hb5 kb0_1
  have zt5 := T5.size
  clear T4 zt4 hb5
  have o_t3 := ho5
  clear ho5
  have bd_t3 : gs5.length + tot gs5 ≤ 1048576 := by have h1 := tot_cards hcs5; have h2 := (cards_same hcs5).1; omega
  have o_x0 := o_t3
  clear o_t3
  go_wp2_with fail
  refine (toField_any _ _ _).mono ?_; rintro e w6 ⟨rfl, hb6⟩
  have T6 := bs T5 hb6
  have z6 := hb6.size
  replace r0 := r0.bs zt5 hb6
  replace o_w0 := o_w0.bs hb6
  replace o_x0 := o_x0.bs hb6
  replace kb0_0 := cell_later hb6 kb0_0
  replace kb0_1 := cell_later hb6 kb0_1
  have zt6 := T6.size
  clear T5 zt5 hb6
  go_wp2_with fail
  refine (FewestPasses_any (some ⟨g5, 0, none⟩) _ gs5 (cards hs0) fa1 fb1 _ o_x0.rd hcs5 bd_t3 o_x0.cap.1 ).mono ?_; rintro e w7 ⟨Ag0, cg0, rfl, hog0, hb7⟩
  have T7 := bs T6 hb7
  have z7 := hb7.size
  replace r0 := r0.bs zt6 hb7
  replace o_w0 := o_w0.bs hb7
  replace o_x0 := o_x0.bs hb7
  replace kb0_0 := cell_later hb7 kb0_0
  replace kb0_1 := cell_later hb7 kb0_1
  have zt7 := T7.size
  clear T6 zt6 hb7
  have o_g0 := Ob.of hog0
  clear hog0
  go_wp2_with fail
  refine (eqPassS_same _ _ _ _ (fewR (cards hs0) fa1 fb1) _ o_g0.rd o_w0.rd (by omega)).mono ?_; rintro e w8 ⟨rfl, hb8⟩
  have T8 := bs T7 hb8
  have z8 := hb8.size
  replace r0 := r0.bs zt7 hb8
  replace o_w0 := o_w0.bs hb8
  replace o_x0 := o_x0.bs hb8
  replace o_g0 := o_g0.bs hb8
  replace kb0_0 := cell_later hb8 kb0_0
  replace kb0_1 := cell_later hb8 kb0_1
  have zt8 := T8.size
  clear T7 zt7 hb8
  go_wp2_with fail
  refine (toCardS_any _ _ _ _ (r0.more zt8) (by omega)).mono ?_; rintro e w9 ⟨g9, gs9, rfl, hcs9, ho9, hb9⟩
  have T9 := bs T8 hb9
  have z9 := hb9.size
  replace r0 := r0.bs zt8 hb9
  replace o_w0 := o_w0.bs hb9
  replace o_x0 := o_x0.bs hb9
  replace o_g0 := o_g0.bs hb9
  replace kb0_0 := cell_later hb9 kb0_0
  replace kb0_1 := cell_later hb9 kb0_1
  have zt9 := T9.size
  clear T8 zt8 hb9
  have o_t5 := ho9
  clear ho9
  have bd_t5 : gs9.length + tot gs9 ≤ 1048576 := by have h1 := tot_cards hcs9; have h2 := (cards_same hcs9).1; omega
  go_wp2_with fail
  refine (eqCardS_same _ _ _ _ gs5 gs9 _ o_x0.rd o_t5.rd (hcs5.trans hcs9.symm) bd_t3).mono ?_; rintro e w10 ⟨rfl, hb10⟩
  have T10 := bs T9 hb10
  have z10 := hb10.size
  replace r0 := r0.bs zt9 hb10
  replace o_w0 := o_w0.bs hb10
  replace o_x0 := o_x0.bs hb10
  replace o_g0 := o_g0.bs hb10
  replace o_t5 := o_t5.bs hb10
  replace kb0_0 := cell_later hb10 kb0_0
  replace kb0_1 := cell_later hb10 kb0_1
  have zt10 := T10.size
  clear T9 zt9 hb10
  clear o_t5
  go_wp2_with fail
  refine (markCardS_any _ _ _ _ _ _ _ o_x0 bd_t3 (by omega) (by omega)).mono ?_; rintro e w11 ⟨rfl, ho11, hg11⟩
  have cg11 := hg11
  have z11 := cg11.size
  have T11 := cg11.below T10 (by omega) zt10
  replace r0 := cg11.rdD r0 (by omega) zt10
  replace o_w0 := o_w0.chg cg11 (by omega)
  replace o_g0 := o_g0.chg cg11 (by omega)
  replace o_x0 := ho11
  replace kb0_0 := cg11.cell kb0_0 (by omega)
  replace kb0_1 := cg11.cell kb0_1 (by omega)
  clear cg11 hg11 ho11
  have zt11 := T11.size
  clear T10 zt10
  go_wp2_with fail
  refine (eqPassS_same _ _ _ _ (fewR (cards hs0) fa1 fb1) _ o_g0.rd o_w0.rd (by omega)).mono ?_; rintro e w12 ⟨rfl, hb12⟩
  have T12 := bs T11 hb12
  have z12 := hb12.size
  replace r0 := r0.bs zt11 hb12
  replace o_w0 := o_w0.bs hb12
  replace o_x0 := o_x0.bs hb12
  replace o_g0 := o_g0.bs hb12
  replace kb0_0 := cell_later hb12 kb0_0
  replace kb0_1 := cell_later hb12 kb0_1
  have zt12 := T12.size
  clear T11 zt11 hb12
  go_wp2_with fail
  refine (markPassS_any _ _ _ _ _ _ _ o_g0.1 (by omega) (by omega) (by omega)).mono ?_; rintro e w13 ⟨rfl, ho13, hg13⟩
  have cg13 := o_g0.turns hg13
  have z13 := cg13.size
  have T13 := cg13.below T12 (by omega) zt12
  replace r0 := cg13.rdD r0 (by omega) zt12
  replace o_w0 := o_w0.chg cg13 (by omega)
  replace o_x0 := o_x0.chg cg13 (by omega)
  replace o_g0 := o_g0.marked ho13
  replace kb0_0 := cg13.cell kb0_0 (by omega)
  replace kb0_1 := cg13.cell kb0_1 (by omega)
  clear cg13 hg13 ho13
  have zt13 := T13.size
  clear T12 zt12
  go_wp2_with fail
  refine (heldPassS_L _ _ _ _ _ o_g0.rd (by omega) (by omega) (by omega)).mono ?_; rintro e w14 ⟨rfl, hb14⟩
  have T14 := bs T13 hb14
  have z14 := hb14.size
  replace r0 := r0.bs zt13 hb14
  replace o_w0 := o_w0.bs hb14
  replace o_x0 := o_x0.bs hb14
  replace o_g0 := o_g0.bs hb14
  replace kb0_0 := cell_later hb14 kb0_0
  replace kb0_1 := cell_later hb14 kb0_1
  have zt14 := T14.size
  clear T13 zt13 hb14
  go_wp2_with fail
  go_region_held3 (fun w' => w'.cell? ⟨w.heap.size, 0, none⟩ = some (.int .i64 fa1) ∧ w'.cell? ⟨w.heap.size, 1, none⟩ = some (.int .i64 fb1)) (first | exact ⟨kb0_0, kb0_1⟩ | go_keep)
    (first
      | (go_at_call 7; refine (toCardS_any _ _ _ _ ?_ ?_).mono ?_; (first | exact (r0.more zt14) | exact ((r0.more zt14)).drew); (omega); rintro e w15 ⟨g15, gs15, rfl, hcs15, ho15, hb15⟩; have hb15 : Below w14.heap.size w14 w15 := ⟨hb15.os, hb15.tape, hb15.output, hb15.size, hb15.block⟩; have ho15 : ObD w15 w14.heap.size _ _ _ _ _ _ := ho15; have T15 := bs T14 hb15; have z15 := hb15.size; replace r0 := r0.bs zt14 hb15; replace o_w0 := o_w0.bs hb15; replace o_x0 := o_x0.bs hb15; replace o_g0 := o_g0.bs hb15; replace kb0_0 := cell_later hb15 kb0_0; replace kb0_1 := cell_later hb15 kb0_1; have zt15 := T15.size; clear T14 zt14 hb15; have o_t6 := ho15; clear ho15; have bd_t6 : gs15.length + tot gs15 ≤ 1048576 := (by have h1 := tot_cards hcs15; have h2 := (cards_same hcs15).1; omega))
      | (go_at_call 8; refine (toField_any _ _ _).mono ?_; rintro e w16 ⟨rfl, hb16⟩; have hb16 : Below w15.heap.size w15 w16 := ⟨hb16.os, hb16.tape, hb16.output, hb16.size, hb16.block⟩; have T16 := bs T15 hb16; have z16 := hb16.size; replace r0 := r0.bs zt15 hb16; replace o_w0 := o_w0.bs hb16; replace o_x0 := o_x0.bs hb16; replace o_g0 := o_g0.bs hb16; replace o_t6 := o_t6.bs hb16; replace kb0_0 := cell_later hb16 kb0_0; replace kb0_1 := cell_later hb16 kb0_1; have zt16 := T16.size; clear T15 zt15 hb16)
      | (go_at_call 9; refine (FewestPasses_any (some ⟨g15, 0, none⟩) _ gs15 (cards hs0) fa1 fb1 _ ?_ hcs15 bd_t6 ?_).mono ?_; (first | exact o_t6.rd | exact (o_t6.rd).drew); (exact o_t6.cap.1); rintro e w17 ⟨Ah0, ch0, rfl, hoh0, hb17⟩; have hb17 : Below w16.heap.size w16 w17 := ⟨hb17.os, hb17.tape, hb17.output, hb17.size, hb17.block⟩; have hoh0 : World.ownsRow w17 w16.heap.size _ _ _ _ _ := hoh0; have T17 := bs T16 hb17; have z17 := hb17.size; replace r0 := r0.bs zt16 hb17; replace o_w0 := o_w0.bs hb17; replace o_x0 := o_x0.bs hb17; replace o_g0 := o_g0.bs hb17; replace o_t6 := o_t6.bs hb17; replace kb0_0 := cell_later hb17 kb0_0; replace kb0_1 := cell_later hb17 kb0_1; have zt17 := T17.size; clear T16 zt16 hb17; have o_h0 := Ob.of hoh0; clear hoh0)
    )
  clear o_t6
  go_wp2_with fail
  refine (eqPassS_same _ _ _ _ (fewR (cards hs0) fa1 fb1) _ o_h0.rd o_w0.rd (by omega)).mono ?_; rintro e w18 ⟨rfl, hb18⟩
  have T18 := bs T17 hb18
  have z18 := hb18.size
  replace r0 := r0.bs zt17 hb18
  replace o_w0 := o_w0.bs hb18
  replace o_x0 := o_x0.bs hb18
  replace o_g0 := o_g0.bs hb18
  replace o_h0 := o_h0.bs hb18
  replace kb0_0 := cell_later hb18 kb0_0
  replace kb0_1 := cell_later hb18 kb0_1
  have zt18 := T18.size
  clear T17 zt17 hb18
  go_wp2_with fail
  refine (heldPassS_L _ _ _ _ _ o_g0.rd (by omega) (by omega) (by omega)).mono ?_; rintro e w19 ⟨rfl, hb19⟩
  have T19 := bs T18 hb19
  have z19 := hb19.size
  replace r0 := r0.bs zt18 hb19
  replace o_w0 := o_w0.bs hb19
  replace o_x0 := o_x0.bs hb19
  replace o_g0 := o_g0.bs hb19
  replace o_h0 := o_h0.bs hb19
  replace kb0_0 := cell_later hb19 kb0_0
  replace kb0_1 := cell_later hb19 kb0_1
  have zt19 := T19.size
  clear T18 zt18 hb19
  go_wp2
  go_ret
  exact ⟨rfl, T19⟩

set_option maxRecDepth 100000 in
theorem lawFewestPasses_lifted (os : Os) (started : os.Started) (H : Type) (enc : TypeId × Value → H) :
    ReturnsInHanded {} Tryz.checked os 3 .any (Rows.fnExactFewestPassesSpec.pre6 enc Tryz.prog Tryz.f3 Rows.fnExactFewestPassesRow.domain false) (Rows.fnExactFewestPassesSpec.post enc Tryz.prog Tryz.f3 false true false false) := by
  refine returnsInHanded_of_change (C := Tryz.checked) lawOwn started (by kernel_rfl) Tryz.func3
    (ChangeSpec.witness6 (enc := enc) (C := Tryz.checked) false ⟨#[], #[.slice none 0 0, .agg #[.int .i64 0, .int .i64 0]], []⟩ 8 (by kernel_rfl) (by kernel_rfl) (by kernel_rfl) (by kernel_rfl)) ?_
  intro W base args ds gs before hval0 hW _ _
  have hval : ∀ (j : Nat) t v, Tryz.f3.params[j]? = some t → args[j]? = some v → Value.okWide Tryz.prog W .any base t v := hval0
  clear hval0
  have hW0 : DataW.Whole enc Tryz.prog Tryz.f3.params.toList Rows.fnExactFewestPassesSpec.vars false W args.toList ds gs before := hW
  clear hW
  have hW := hW0
  obtain ⟨p, q, hA, hV, _, _, _⟩ := hW
  rw [Tryz.params3] at hA hval
  obtain ⟨v0, vs0, d0, ds0, p0, q0, hargs, rfl, rfl, h0, hA0⟩ := trodAll_cons hA
  obtain ⟨v1, vs1, d1, ds1, p1, q1, rfl, rfl, rfl, h1, hA1⟩ := trodAll_cons hA0
  obtain ⟨rfl, rfl, rfl⟩ := trodAll_nil hA1
  have hargs2 : args = #[v0, v1] := by cases args; simp_all
  clear hargs
  subst hargs2
  obtain ⟨D0, c0, hs0, rfl, hc0, hm0, r0, hz0⟩ := in_deck Tryz.underlying22 Tryz.underlying52 (by kernel_rfl) (by kernel_rfl) rfl Tryz.underlying50 Tryz.underlying2 (by kernel_rfl) (hval 0 22 v0 rfl rfl) h0
  obtain ⟨fa1, fb1, rfl, ha1, hb1⟩ := in_pair Tryz.underlying24 (by kernel_rfl) (by kernel_rfl) rfl rfl Tryz.underlying2 Tryz.underlying2 (hval 1 24 v1 rfl rfl) h1
  have hcall : Calls Tryz.prog 3 #[.slice D0 hs0.length c0, .agg #[.int .i64 fa1, .int .i64 fb1]] W fun e W' => e = .returned (.bool true) ∧ Below W.heap.size W W' := by
    by_cases s0 : (hs0.length + tot hs0) ≤ 1048576
    case neg => exact lawFewestPasses_no0 D0 c0 hs0 fa1 fb1 W r0  s0 ⟨by omega, fun h hh => Nat.le_trans (r0.cap h hh) (hz0 h hh).1⟩
    exact lawFewestPasses_yes D0 c0 hs0 fa1 fb1 W r0 s0
  refine hcall.mono fun e W' ⟨he, hb⟩ => ⟨_, he, ?_⟩
  exact post_law (f := Tryz.f3) (s := Rows.fnExactFewestPassesSpec) hW0 rfl (tb := 4) rfl Tryz.underlying4 rfl lawLaid (by kernel_rfl) hb

theorem fnExactFewestPasses_holds : Rows.FnExactFewestPassesSaid :=
  OpenClaim.holds_of_wide 3 Tryz.f3 rfl rfl rfl rfl rfl rfl rfl ⟨rfl, rfl, rfl, rfl, rfl⟩ rfl rfl rfl rfl rfl (by kernel_rfl) Tryz.func3 (by kernel_rfl)
    (of_decide_eq_true (by kernel_rfl)) (by unfold Func.isWrapper; first | (rw [if_pos (by decide +kernel)]; kernel_rfl) | (rw [if_neg (by decide +kernel)]; exact ⟨rfl, rfl⟩))
    (fun os started H enc _ => lawFewestPasses_lifted os started H enc)
#print axioms fnExactFewestPasses_holds
end Go.Proofs.YtkcnahjgkhgebaaGreat
