/- The law FnExactAlwaysSorts answers true at every input, and its arguments stay as they were; conditions: none. -/
import Derived.Test.YtoakjfoioijaaaaRows
import Derived.Test.YtoakjfoioijaaaaOpen
import Derived.Test.YtoakjfoioijaaaaLawBase
import Derived.Deep.RegionHeld3
import Derived.Deep.DeepCutAuto
import Derived.Test.YtoakjfoioijaaaaAlways5
import Derived.Test.YtoakjfoioijaaaaHarnPass
namespace Go.Proofs.Ytoakjfoioijaaaa
open Go.RowKit Go.ChangeShapes Go.WideShapes Go.ChangeAt

set_option maxRecDepth 100000 in
theorem lawAlwaysSorts_no0 (fa0 fb0 : Int) (A1 : Option Addr) (c1 : Nat) (ps1 : List (Int × Int)) (w : World) (_r1 : Rd w w.heap.size 2 A1 ps1.length (prs ps1)) (hn : ¬ ps1.length ≤ 1048576) (hm : ps1.length ≤ maxLen) :
    Calls Try.prog 6 #[.agg #[.int .i64 fa0, .int .i64 fb0], .slice A1 ps1.length c1] w fun e w' => e = .returned (.bool true) ∧ Below w.heap.size w w' := by
  go_enter Try.func6, Try.ntmps6
  have T0 : Below w.heap.size w (w.alloc (.cells #[.int .i64 fa0, .int .i64 fb0] 55)) := ba (b0 w) _
  have kb0_0 : World.cell? (w.alloc (.cells #[.int .i64 fa0, .int .i64 fb0] 55)) ⟨w.heap.size, 0, none⟩ = some (.int .i64 fa0) := by simp
  have kb0_1 : World.cell? (w.alloc (.cells #[.int .i64 fa0, .int .i64 fb0] 55)) ⟨w.heap.size, 1, none⟩ = some (.int .i64 fb0) := by simp
  go_wp2_with fail
  refine (szPassS_no_L _ _ _ _ _ (by omega) (by omega) hm (by omega)).mono ?_; rintro e w1 ⟨rfl, hb1⟩
  have T1 := bs T0 hb1
  go_wp2
  go_ret
  exact ⟨rfl, T1⟩

set_option maxRecDepth 100000 in
set_option maxHeartbeats 8000000 in
theorem lawAlwaysSorts_yes (fa0 fb0 : Int) (A1 : Option Addr) (c1 : Nat) (ps1 : List (Int × Int)) (w : World) (r1 : Rd w w.heap.size 2 A1 ps1.length (prs ps1)) (hl : ps1.length ≤ 1048576) :
    Calls Try.prog 6 #[.agg #[.int .i64 fa0, .int .i64 fb0], .slice A1 ps1.length c1] w fun e w' => e = .returned (.bool true) ∧ Below w.heap.size w w' := by
  go_enter Try.func6, Try.ntmps6
  have T0 : Below w.heap.size w (w.alloc (.cells #[.int .i64 fa0, .int .i64 fb0] 55)) := ba (b0 w) _
  have zt0 := T0.size
  have kb0_0 : World.cell? (w.alloc (.cells #[.int .i64 fa0, .int .i64 fb0] 55)) ⟨w.heap.size, 0, none⟩ = some (.int .i64 fa0) := by simp
  have kb0_1 : World.cell? (w.alloc (.cells #[.int .i64 fa0, .int .i64 fb0] 55)) ⟨w.heap.size, 1, none⟩ = some (.int .i64 fb0) := by simp
  replace r1 := r1.below T0
  go_wp2_with fail
  refine (szPassS_yes_L _ _ _ _ _ (by omega) (by omega)).mono ?_; rintro e w1 ⟨rfl, hb1⟩
  have T1 := bs T0 hb1
  have z1 := hb1.size
  simp only [World.size_alloc] at z1
  replace r1 := r1.bs zt0 hb1
  replace kb0_0 := cell_later hb1 kb0_0
  replace kb0_1 := cell_later hb1 kb0_1
  have zt1 := T1.size
  clear T0 zt0 hb1
  go_wp2_with fail
  refine (toField_any _ _ _).mono ?_; rintro e w2 ⟨rfl, hb2⟩
  have T2 := bs T1 hb2
  have z2 := hb2.size
  replace r1 := r1.bs zt1 hb2
  replace kb0_0 := cell_later hb2 kb0_0
  replace kb0_1 := cell_later hb2 kb0_1
  have zt2 := T2.size
  clear T1 zt1 hb2
  go_wp2_with fail
  refine (toPassS_any _ _ _ _ (r1.more zt2) (by omega)).mono ?_; rintro e w3 ⟨g3, rfl, ho3, hb3⟩
  have T3 := bs T2 hb3
  have z3 := hb3.size
  replace r1 := r1.bs zt2 hb3
  replace kb0_0 := cell_later hb3 kb0_0
  replace kb0_1 := cell_later hb3 kb0_1
  have zt3 := T3.size
  clear T2 zt2 hb3
  have o_t2 := Ob.of ho3
  clear ho3
  go_wp2_with fail
  refine (spAlwaysSorts_any fa0 fb0 (some ⟨g3, 0, none⟩) _ (ps1) _ o_t2.rd (by omega) ).mono ?_; rintro e w4 ⟨rfl, hb4⟩
  have T4 := bs T3 hb4
  have z4 := hb4.size
  replace r1 := r1.bs zt3 hb4
  replace o_t2 := o_t2.bs hb4
  replace kb0_0 := cell_later hb4 kb0_0
  replace kb0_1 := cell_later hb4 kb0_1
  have zt4 := T4.size
  clear T3 zt3 hb4
  clear o_t2
  go_wp2_with fail
  refine (toPassS_any _ _ _ _ (r1.more zt4) (by omega)).mono ?_; rintro e w5 ⟨g5, rfl, ho5, hb5⟩
  have T5 := bs T4 hb5
  have z5 := hb5.size
  replace r1 := r1.bs zt4 hb5
  replace kb0_0 := cell_later hb5 kb0_0
  replace kb0_1 := cell_later hb5 kb0_1
  have zt5 := T5.size
  clear T4 zt4 hb5
  have o_t3 := Ob.of ho5
  clear ho5
  have o_x1 := o_t3
  clear o_t3
  go_wp2_with fail
  refine (toField_any _ _ _).mono ?_; rintro e w6 ⟨rfl, hb6⟩
  have T6 := bs T5 hb6
  have z6 := hb6.size
  replace r1 := r1.bs zt5 hb6
  replace o_x1 := o_x1.bs hb6
  replace kb0_0 := cell_later hb6 kb0_0
  replace kb0_1 := cell_later hb6 kb0_1
  have zt6 := T6.size
  clear T5 zt5 hb6
  go_wp2_with fail
  refine (AlwaysSorts_any fa0 fb0 (some ⟨g5, 0, none⟩) _ (ps1) _ o_x1.rd (by omega) ).mono ?_; rintro e w7 ⟨rfl, hb7⟩
  have T7 := bs T6 hb7
  have z7 := hb7.size
  replace r1 := r1.bs zt6 hb7
  replace o_x1 := o_x1.bs hb7
  replace kb0_0 := cell_later hb7 kb0_0
  replace kb0_1 := cell_later hb7 kb0_1
  have zt7 := T7.size
  clear T6 zt6 hb7
  go_wp2_with fail
  refine (toPassS_any _ _ _ _ (r1.more zt7) (by omega)).mono ?_; rintro e w8 ⟨g8, rfl, ho8, hb8⟩
  have T8 := bs T7 hb8
  have z8 := hb8.size
  replace r1 := r1.bs zt7 hb8
  replace o_x1 := o_x1.bs hb8
  replace kb0_0 := cell_later hb8 kb0_0
  replace kb0_1 := cell_later hb8 kb0_1
  have zt8 := T8.size
  clear T7 zt7 hb8
  have o_t5 := Ob.of ho8
  clear ho8
  go_wp2_with fail
  refine (eqPassS_same _ _ _ _ (ps1) _ o_x1.rd o_t5.rd (by omega)).mono ?_; rintro e w9 ⟨rfl, hb9⟩
  have T9 := bs T8 hb9
  have z9 := hb9.size
  replace r1 := r1.bs zt8 hb9
  replace o_x1 := o_x1.bs hb9
  replace o_t5 := o_t5.bs hb9
  replace kb0_0 := cell_later hb9 kb0_0
  replace kb0_1 := cell_later hb9 kb0_1
  have zt9 := T9.size
  clear T8 zt8 hb9
  clear o_t5
  go_wp2
  go_ret
  exact ⟨rfl, T9⟩

set_option maxRecDepth 100000 in
theorem lawAlwaysSorts_lifted (os : Os) (started : os.Started) (H : Type) (enc : TypeId × Value → H) :
    ReturnsInHanded {} Try.checked os 6 .any (Rows.fnExactAlwaysSortsSpec.pre6 enc Try.prog Try.f6 Rows.fnExactAlwaysSortsRow.domain false) (Rows.fnExactAlwaysSortsSpec.post enc Try.prog Try.f6 false true false false) := by
  refine returnsInHanded_of_change (C := Try.checked) lawOwn started (by kernel_rfl) Try.func6
    (ChangeSpec.witness6 (enc := enc) (C := Try.checked) false ⟨#[], #[.agg #[.int .i64 0, .int .i64 0], .slice none 0 0], []⟩ 8 (by kernel_rfl) (by kernel_rfl) (by kernel_rfl) (by kernel_rfl)) ?_
  intro W base args ds gs before hval0 hW _ _
  have hval : ∀ (j : Nat) t v, Try.f6.params[j]? = some t → args[j]? = some v → Value.okWide Try.prog W .any base t v := hval0
  clear hval0
  have hW0 : DataW.Whole enc Try.prog Try.f6.params.toList Rows.fnExactAlwaysSortsSpec.vars false W args.toList ds gs before := hW
  clear hW
  have hW := hW0
  obtain ⟨p, q, hA, hV, _, _, _⟩ := hW
  rw [Try.params6] at hA hval
  obtain ⟨v0, vs0, d0, ds0, p0, q0, hargs, rfl, rfl, h0, hA0⟩ := trodAll_cons hA
  obtain ⟨v1, vs1, d1, ds1, p1, q1, rfl, rfl, rfl, h1, hA1⟩ := trodAll_cons hA0
  obtain ⟨rfl, rfl, rfl⟩ := trodAll_nil hA1
  have hargs2 : args = #[v0, v1] := by cases args; simp_all
  clear hargs
  subst hargs2
  obtain ⟨fa0, fb0, rfl, ha0, hb0⟩ := in_pair Try.underlying55 (by kernel_rfl) (by kernel_rfl) rfl rfl Try.underlying2 Try.underlying2 (hval 0 55 v0 rfl rfl) h0
  obtain ⟨A1, c1, ps1, rfl, hc1, hm1, r1, hz1⟩ := in_pairs Try.underlying56 Try.underlying74 (by kernel_rfl) (by kernel_rfl) rfl rfl Try.underlying2 Try.underlying2 (hval 1 56 v1 rfl rfl) h1
  have hcall : Calls Try.prog 6 #[.agg #[.int .i64 fa0, .int .i64 fb0], .slice A1 ps1.length c1] W fun e W' => e = .returned (.bool true) ∧ Below W.heap.size W W' := by
    by_cases s0 : ps1.length ≤ 1048576
    case neg => exact lawAlwaysSorts_no0 fa0 fb0 A1 c1 ps1 W r1  s0 (by omega)
    exact lawAlwaysSorts_yes fa0 fb0 A1 c1 ps1 W r1 s0
  refine hcall.mono fun e W' ⟨he, hb⟩ => ⟨_, he, ?_⟩
  exact post_law (f := Try.f6) (s := Rows.fnExactAlwaysSortsSpec) hW0 rfl (tb := 4) rfl Try.underlying4 rfl lawLaid (by kernel_rfl) hb

theorem fnExactAlwaysSorts_holds : Rows.FnExactAlwaysSortsSaid :=
  OpenClaim.holds_of_wide 6 Try.f6 rfl rfl rfl rfl rfl rfl rfl ⟨rfl, rfl, rfl, rfl, rfl⟩ rfl rfl rfl rfl rfl (by kernel_rfl) Try.func6 (by kernel_rfl)
    (of_decide_eq_true (by kernel_rfl)) (by unfold Func.isWrapper; first | (rw [if_pos (by decide +kernel)]; kernel_rfl) | (rw [if_neg (by decide +kernel)]; exact ⟨rfl, rfl⟩))
    (fun os started H enc _ => lawAlwaysSorts_lifted os started H enc)
#print axioms fnExactAlwaysSorts_holds
end Go.Proofs.Ytoakjfoioijaaaa
