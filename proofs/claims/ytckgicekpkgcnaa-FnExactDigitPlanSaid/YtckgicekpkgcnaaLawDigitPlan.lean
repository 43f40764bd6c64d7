/- The law FnExactDigitPlan answers true at every input, and its arguments stay as they were; conditions: none. -/
import Derived.Test.YtckgicekpkgcnaaRows
import Derived.Test.YtckgicekpkgcnaaOpen
import Derived.Test.YtckgicekpkgcnaaLawBase
import Derived.Test.YtckgicekpkgcnaaDigitPlan
import Derived.Test.YtckgicekpkgcnaaHarnPass
namespace Go.Proofs.Ytckgicekpkgcnaa
open Go.RowKit Go.ChangeShapes Go.WideShapes Go.ChangeAt

set_option maxHeartbeats 4000000 in
theorem lawDigitPlan_yes (fa0 fb0 : Int) (w : World) :
    Calls Try.prog 6 #[.agg #[.int .i64 fa0, .int .i64 fb0]] w fun e w' => e = .returned (.bool true) ∧ Below w.heap.size w w' := by
  have hr0 : (digRes fa0 fb0).length ≤ 1048576 := by have := digRes_length fa0 fb0; omega
  go_enter Try.func6, Try.ntmps6
  have T0 : Below w.heap.size w (w.alloc (.cells #[.int .i64 fa0, .int .i64 fb0] 23)) := ba (b0 w) _
  have zt0 := T0.size
  have kb0_0 : World.cell? (w.alloc (.cells #[.int .i64 fa0, .int .i64 fb0] 23)) ⟨w.heap.size, 0, none⟩ = some (.int .i64 fa0) := by simp
  have kb0_1 : World.cell? (w.alloc (.cells #[.int .i64 fa0, .int .i64 fb0] 23)) ⟨w.heap.size, 1, none⟩ = some (.int .i64 fb0) := by simp
  go_wp2_with fail
  refine (toField_any _ _ _).mono ?_; rintro e w1 ⟨rfl, hb1⟩
  have T1 := bs T0 hb1
  have z1 := hb1.size
  simp only [World.size_alloc] at z1
  replace kb0_0 := cell_later hb1 kb0_0
  replace kb0_1 := cell_later hb1 kb0_1
  have zt1 := T1.size
  clear T0 zt0 hb1
  go_wp2_with fail
  refine (spDigitPlan_any fa0 fb0 _  ).mono ?_; rintro e w2 ⟨Aw0, cw0, rfl, how0, hb2⟩
  have T2 := bs T1 hb2
  have z2 := hb2.size
  replace kb0_0 := cell_later hb2 kb0_0
  replace kb0_1 := cell_later hb2 kb0_1
  have zt2 := T2.size
  clear T1 zt1 hb2
  have o_w0 := Ob.of how0
  clear how0
  go_wp2_with fail
  refine (toField_any _ _ _).mono ?_; rintro e w3 ⟨rfl, hb3⟩
  have T3 := bs T2 hb3
  have z3 := hb3.size
  replace o_w0 := o_w0.bs hb3
  replace kb0_0 := cell_later hb3 kb0_0
  replace kb0_1 := cell_later hb3 kb0_1
  have zt3 := T3.size
  clear T2 zt2 hb3
  go_wp2_with fail
  refine (DigitPlan_any fa0 fb0 _  ).mono ?_; rintro e w4 ⟨Ag0, cg0, rfl, hog0, hb4⟩
  have T4 := bs T3 hb4
  have z4 := hb4.size
  replace o_w0 := o_w0.bs hb4
  replace kb0_0 := cell_later hb4 kb0_0
  replace kb0_1 := cell_later hb4 kb0_1
  have zt4 := T4.size
  clear T3 zt3 hb4
  have o_g0 := Ob.of hog0
  clear hog0
  go_wp2_with fail
  refine (eqPassS_same _ _ _ _ (digRes fa0 fb0) _ o_g0.rd o_w0.rd (by omega)).mono ?_; rintro e w5 ⟨rfl, hb5⟩
  have T5 := bs T4 hb5
  have z5 := hb5.size
  replace o_w0 := o_w0.bs hb5
  replace o_g0 := o_g0.bs hb5
  replace kb0_0 := cell_later hb5 kb0_0
  replace kb0_1 := cell_later hb5 kb0_1
  have zt5 := T5.size
  clear T4 zt4 hb5
  go_wp2_with fail
  refine (markPassS_any _ _ _ _ _ _ _ o_g0.1 (by omega) (by omega) (by omega)).mono ?_; rintro e w6 ⟨rfl, ho6, hg6⟩
  have cg6 := o_g0.turns hg6
  have z6 := cg6.size
  have T6 := cg6.below T5 (by omega) zt5
  replace o_w0 := o_w0.chg cg6 (by omega)
  replace o_g0 := o_g0.marked ho6
  replace kb0_0 := cg6.cell kb0_0 (by omega)
  replace kb0_1 := cg6.cell kb0_1 (by omega)
  clear cg6 hg6 ho6
  have zt6 := T6.size
  clear T5 zt5
  go_wp2_with fail
  refine (heldPassS_L _ _ _ _ _ o_g0.rd (by omega) (by omega) (by omega)).mono ?_; rintro e w7 ⟨rfl, hb7⟩
  have T7 := bs T6 hb7
  have z7 := hb7.size
  replace o_w0 := o_w0.bs hb7
  replace o_g0 := o_g0.bs hb7
  replace kb0_0 := cell_later hb7 kb0_0
  replace kb0_1 := cell_later hb7 kb0_1
  have zt7 := T7.size
  clear T6 zt6 hb7
  go_wp2_with fail
  refine (toField_any _ _ _).mono ?_; rintro e w8 ⟨rfl, hb8⟩
  have T8 := bs T7 hb8
  have z8 := hb8.size
  replace o_w0 := o_w0.bs hb8
  replace o_g0 := o_g0.bs hb8
  replace kb0_0 := cell_later hb8 kb0_0
  replace kb0_1 := cell_later hb8 kb0_1
  have zt8 := T8.size
  clear T7 zt7 hb8
  go_wp2_with fail
  refine (DigitPlan_any fa0 fb0 _  ).mono ?_; rintro e w9 ⟨Ah0, ch0, rfl, hoh0, hb9⟩
  have T9 := bs T8 hb9
  have z9 := hb9.size
  replace o_w0 := o_w0.bs hb9
  replace o_g0 := o_g0.bs hb9
  replace kb0_0 := cell_later hb9 kb0_0
  replace kb0_1 := cell_later hb9 kb0_1
  have zt9 := T9.size
  clear T8 zt8 hb9
  have o_h0 := Ob.of hoh0
  clear hoh0
  go_wp2_with fail
  refine (eqPassS_same _ _ _ _ (digRes fa0 fb0) _ o_h0.rd o_w0.rd (by omega)).mono ?_; rintro e w10 ⟨rfl, hb10⟩
  have T10 := bs T9 hb10
  have z10 := hb10.size
  replace o_w0 := o_w0.bs hb10
  replace o_g0 := o_g0.bs hb10
  replace o_h0 := o_h0.bs hb10
  replace kb0_0 := cell_later hb10 kb0_0
  replace kb0_1 := cell_later hb10 kb0_1
  have zt10 := T10.size
  clear T9 zt9 hb10
  go_wp2_with fail
  refine (heldPassS_L _ _ _ _ _ o_g0.rd (by omega) (by omega) (by omega)).mono ?_; rintro e w11 ⟨rfl, hb11⟩
  have T11 := bs T10 hb11
  have z11 := hb11.size
  replace o_w0 := o_w0.bs hb11
  replace o_g0 := o_g0.bs hb11
  replace o_h0 := o_h0.bs hb11
  replace kb0_0 := cell_later hb11 kb0_0
  replace kb0_1 := cell_later hb11 kb0_1
  have zt11 := T11.size
  clear T10 zt10 hb11
  go_wp2
  go_ret
  exact ⟨rfl, T11⟩

set_option maxRecDepth 100000 in
theorem lawDigitPlan_lifted (os : Os) (started : os.Started) (H : Type) (enc : TypeId × Value → H) :
    ReturnsInHanded {} Try.checked os 6 .any (Rows.fnExactDigitPlanSpec.pre6 enc Try.prog Try.f6 Rows.fnExactDigitPlanRow.domain false) (Rows.fnExactDigitPlanSpec.post enc Try.prog Try.f6 false true false false) := by
  refine returnsInHanded_of_change (C := Try.checked) lawOwn started (by kernel_rfl) Try.func6
    (ChangeSpec.witness6 (enc := enc) (C := Try.checked) false ⟨#[], #[.agg #[.int .i64 0, .int .i64 0]], []⟩ 8 (by kernel_rfl) (by kernel_rfl) (by kernel_rfl) (by kernel_rfl)) ?_
  intro W base args ds gs before hval0 hW _ _
  have hval : ∀ (j : Nat) t v, Try.f6.params[j]? = some t → args[j]? = some v → Value.okWide Try.prog W .any base t v := hval0
  clear hval0
  have hW0 : DataW.Whole enc Try.prog Try.f6.params.toList Rows.fnExactDigitPlanSpec.vars false W args.toList ds gs before := hW
  clear hW
  have hW := hW0
  obtain ⟨p, q, hA, hV, _, _, _⟩ := hW
  rw [Try.params6] at hA hval
  obtain ⟨v0, vs0, d0, ds0, p0, q0, hargs, rfl, rfl, h0, hA0⟩ := trodAll_cons hA
  obtain ⟨rfl, rfl, rfl⟩ := trodAll_nil hA0
  have hargs2 : args = #[v0] := by cases args; simp_all
  clear hargs
  subst hargs2
  obtain ⟨fa0, fb0, rfl, ha0, hb0⟩ := in_pair Try.underlying23 (by kernel_rfl) (by kernel_rfl) rfl rfl Try.underlying2 Try.underlying2 (hval 0 23 v0 rfl rfl) h0
  have hcall : Calls Try.prog 6 #[.agg #[.int .i64 fa0, .int .i64 fb0]] W fun e W' => e = .returned (.bool true) ∧ Below W.heap.size W W' := by
    exact lawDigitPlan_yes fa0 fb0 W  
  refine hcall.mono fun e W' ⟨he, hb⟩ => ⟨_, he, ?_⟩
  exact post_law (f := Try.f6) (s := Rows.fnExactDigitPlanSpec) hW0 rfl (tb := 4) rfl Try.underlying4 rfl lawLaid (by kernel_rfl) hb

theorem fnExactDigitPlan_holds : Rows.FnExactDigitPlanSaid :=
  OpenClaim.holds_of_wide 6 Try.f6 rfl rfl rfl rfl rfl rfl rfl ⟨rfl, rfl, rfl, rfl, rfl⟩ rfl rfl rfl rfl rfl (by kernel_rfl) Try.func6 (by kernel_rfl)
    (of_decide_eq_true (by kernel_rfl)) (by unfold Func.isWrapper; first | (rw [if_pos (by decide +kernel)]; kernel_rfl) | (rw [if_neg (by decide +kernel)]; exact ⟨rfl, rfl⟩))
    (fun os started H enc _ => lawDigitPlan_lifted os started H enc)
#print axioms fnExactDigitPlan_holds
end Go.Proofs.Ytckgicekpkgcnaa
