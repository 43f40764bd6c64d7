/- The law FnExactPocketOf answers true at every input, and its arguments stay as they were; conditions: none. -/
import Derived.Test.YtlnpkijeondidaaRows
import Derived.Test.YtlnpkijeondidaaOpen
import Derived.Test.YtlnpkijeondidaaLawBase
import Derived.Deep.RegionHeld3
import Derived.Test.YtlnpkijeondidaaPocketOf
import Derived.Test.YtlnpkijeondidaaHarnCard
namespace Go.Proofs.Ytlnpkijeondidaa
open Go.RowKit Go.ChangeShapes Go.WideShapes Go.ChangeAt

set_option maxRecDepth 100000 in
theorem lawPocketOf_no0 (A0 : Option Addr) (c0 : Nat) (xs0 : List Int) (fa1 fb1 : Int) (w : World) (r0 : Rd w w.heap.size 1 A0 xs0.length (ints xs0)) (hn : ¬ xs0.length ≤ 1048576) (hm : xs0.length ≤ maxLen) :
    Calls Try.prog 5 #[.agg #[.slice A0 xs0.length c0], .agg #[.int .i64 fa1, .int .i64 fb1]] w fun e w' => e = .returned (.bool true) ∧ Below w.heap.size w w' := by
  go_enter Try.func5, Try.ntmps5
  have T0 : Below w.heap.size w ((w.alloc (.cells #[.slice A0 xs0.length c0] 24)).alloc (.cells #[.int .i64 fa1, .int .i64 fb1] 33)) := ba (ba (b0 w) _) _
  have kb0_0 : World.cell? ((w.alloc (.cells #[.slice A0 xs0.length c0] 24)).alloc (.cells #[.int .i64 fa1, .int .i64 fb1] 33)) ⟨w.heap.size, 0, none⟩ = some (.slice A0 xs0.length c0) := by simp
  have kb1_0 : World.cell? ((w.alloc (.cells #[.slice A0 xs0.length c0] 24)).alloc (.cells #[.int .i64 fa1, .int .i64 fb1] 33)) ⟨w.heap.size + 1, 0, none⟩ = some (.int .i64 fa1) := by simp
  have kb1_1 : World.cell? ((w.alloc (.cells #[.slice A0 xs0.length c0] 24)).alloc (.cells #[.int .i64 fa1, .int .i64 fb1] 33)) ⟨w.heap.size + 1, 1, none⟩ = some (.int .i64 fb1) := by simp
  go_wp2_with fail
  refine (szCard_no _ _ _ _ _ (by omega) (by omega) hm (by omega)).mono ?_; rintro e w1 ⟨rfl, hb1⟩
  have T1 := bs T0 hb1
  go_wp2
  go_ret
  exact ⟨rfl, T1⟩

set_option maxHeartbeats 4000000 in
theorem lawPocketOf_yes (A0 : Option Addr) (c0 : Nat) (xs0 : List Int) (fa1 fb1 : Int) (w : World) (r0 : Rd w w.heap.size 1 A0 xs0.length (ints xs0)) (hl : xs0.length ≤ 1048576) :
    Calls Try.prog 5 #[.agg #[.slice A0 xs0.length c0], .agg #[.int .i64 fa1, .int .i64 fb1]] w fun e w' => e = .returned (.bool true) ∧ Below w.heap.size w w' := by
  go_enter Try.func5, Try.ntmps5
  have T0 : Below w.heap.size w ((w.alloc (.cells #[.slice A0 xs0.length c0] 24)).alloc (.cells #[.int .i64 fa1, .int .i64 fb1] 33)) := ba (ba (b0 w) _) _
  have zt0 := T0.size
  have kb0_0 : World.cell? ((w.alloc (.cells #[.slice A0 xs0.length c0] 24)).alloc (.cells #[.int .i64 fa1, .int .i64 fb1] 33)) ⟨w.heap.size, 0, none⟩ = some (.slice A0 xs0.length c0) := by simp
  have kb1_0 : World.cell? ((w.alloc (.cells #[.slice A0 xs0.length c0] 24)).alloc (.cells #[.int .i64 fa1, .int .i64 fb1] 33)) ⟨w.heap.size + 1, 0, none⟩ = some (.int .i64 fa1) := by simp
  have kb1_1 : World.cell? ((w.alloc (.cells #[.slice A0 xs0.length c0] 24)).alloc (.cells #[.int .i64 fa1, .int .i64 fb1] 33)) ⟨w.heap.size + 1, 1, none⟩ = some (.int .i64 fb1) := by simp
  replace r0 := r0.below T0
  go_wp2_with fail
  refine (szCard_yes _ _ _ _ _ (by omega) (by omega)).mono ?_; rintro e w1 ⟨rfl, hb1⟩
  have T1 := bs T0 hb1
  have z1 := hb1.size
  simp only [World.size_alloc] at z1
  replace r0 := r0.bs zt0 hb1
  replace kb0_0 := cell_later hb1 kb0_0
  replace kb1_0 := cell_later hb1 kb1_0
  replace kb1_1 := cell_later hb1 kb1_1
  have zt1 := T1.size
  clear T0 zt0 hb1
  go_wp2_with fail
  go_region_held3 (fun w' => w'.cell? ⟨w.heap.size, 0, none⟩ = some (.slice A0 xs0.length c0) ∧ w'.cell? ⟨w.heap.size + 1, 0, none⟩ = some (.int .i64 fa1) ∧ w'.cell? ⟨w.heap.size + 1, 1, none⟩ = some (.int .i64 fb1)) (first | exact ⟨kb0_0, kb1_0, kb1_1⟩ | go_keep)
    (first
      | (go_at_call 17; refine (toCard_any _ _ _ _ ?_ ?_).mono ?_; (exact (r0.more zt1)); (omega); rintro e w2 ⟨g2, rfl, ho2, hb2⟩; have hb2 : Below w1.heap.size w1 w2 := ⟨hb2.os, hb2.tape, hb2.output, hb2.size, hb2.block⟩; have ho2 : World.ownsRow w2 w1.heap.size _ _ _ _ _ := ho2; have T2 := bs T1 hb2; have z2 := hb2.size; replace r0 := r0.bs zt1 hb2; replace kb0_0 := cell_later hb2 kb0_0; replace kb1_0 := cell_later hb2 kb1_0; replace kb1_1 := cell_later hb2 kb1_1; have zt2 := T2.size; clear T1 zt1 hb2; have o_t1 := Ob.of ho2; clear ho2)
      | (go_at_call 23; refine (toPass_any _ _ _).mono ?_; rintro e w3 ⟨rfl, hb3⟩; have hb3 : Below w2.heap.size w2 w3 := ⟨hb3.os, hb3.tape, hb3.output, hb3.size, hb3.block⟩; have T3 := bs T2 hb3; have z3 := hb3.size; replace r0 := r0.bs zt2 hb3; replace o_t1 := o_t1.bs hb3; replace kb0_0 := cell_later hb3 kb0_0; replace kb1_0 := cell_later hb3 kb1_0; replace kb1_1 := cell_later hb3 kb1_1; have zt3 := T3.size; clear T2 zt2 hb3)
      | (go_at_call 22; refine (spPocketOf_any (some ⟨g2, 0, none⟩) _ (xs0) fa1 fb1 _ ?_ ?_ ?_).mono ?_; (exact o_t1.rd); (omega); (omega); rintro e w4 ⟨rfl, hb4⟩; have hb4 : Below w3.heap.size w3 w4 := ⟨hb4.os, hb4.tape, hb4.output, hb4.size, hb4.block⟩; have T4 := bs T3 hb4; have z4 := hb4.size; replace r0 := r0.bs zt3 hb4; replace o_t1 := o_t1.bs hb4; replace kb0_0 := cell_later hb4 kb0_0; replace kb1_0 := cell_later hb4 kb1_0; replace kb1_1 := cell_later hb4 kb1_1; have zt4 := T4.size; clear T3 zt3 hb4)
    )
  clear o_t1
  go_wp2_with fail
  refine (toCard_any _ _ _ _ (r0.more zt4) (by omega)).mono ?_; rintro e w5 ⟨g5, rfl, ho5, hb5⟩
  have T5 := bs T4 hb5
  have z5 := hb5.size
  replace r0 := r0.bs zt4 hb5
  replace kb0_0 := cell_later hb5 kb0_0
  replace kb1_0 := cell_later hb5 kb1_0
  replace kb1_1 := cell_later hb5 kb1_1
  have zt5 := T5.size
  clear T4 zt4 hb5
  have o_t3 := Ob.of ho5
  clear ho5
  have o_x0 := o_t3
  clear o_t3
  replace r0 := r0.alloc zt5 (.cells #[.slice (some ⟨g5, 0, none⟩) xs0.length xs0.length] 28)
  replace T5 := ba T5 (.cells #[.slice (some ⟨g5, 0, none⟩) xs0.length xs0.length] 28)
  replace o_x0 := o_x0.alloc (.cells #[.slice (some ⟨g5, 0, none⟩) xs0.length xs0.length] 28)
  replace kb0_0 := cell_alloc kb0_0 (.cells #[.slice (some ⟨g5, 0, none⟩) xs0.length xs0.length] 28)
  replace kb1_0 := cell_alloc kb1_0 (.cells #[.slice (some ⟨g5, 0, none⟩) xs0.length xs0.length] 28)
  replace kb1_1 := cell_alloc kb1_1 (.cells #[.slice (some ⟨g5, 0, none⟩) xs0.length xs0.length] 28)
  have kx_x0 : World.cell? (w5.alloc (.cells #[.slice (some ⟨g5, 0, none⟩) xs0.length xs0.length] 28)) ⟨w5.heap.size, 0, none⟩ = some (.slice (some ⟨g5, 0, none⟩) xs0.length xs0.length) := by simp
  replace zt5 := T5.size
  have zb_x0 : (World.heap (w5.alloc (.cells #[.slice (some ⟨g5, 0, none⟩) xs0.length xs0.length] 28))).size = w5.heap.size + 1 := by simp
  go_wp2_with fail
  go_region_held3 (fun w' => w'.cell? ⟨w.heap.size, 0, none⟩ = some (.slice A0 xs0.length c0) ∧ w'.cell? ⟨w.heap.size + 1, 0, none⟩ = some (.int .i64 fa1) ∧ w'.cell? ⟨w.heap.size + 1, 1, none⟩ = some (.int .i64 fb1) ∧ w'.cell? ⟨w5.heap.size, 0, none⟩ = some (.slice (some ⟨g5, 0, none⟩) xs0.length xs0.length)) (first | exact ⟨kb0_0, kb1_0, kb1_1, kx_x0⟩ | go_keep)
    (first
      | (go_at_call 23; refine (toPass_any _ _ _).mono ?_; rintro e w6 ⟨rfl, hb6⟩; have hb6 : Below (w5.alloc (.cells #[.slice (some ⟨g5, 0, none⟩) xs0.length xs0.length] 28)).heap.size (w5.alloc (.cells #[.slice (some ⟨g5, 0, none⟩) xs0.length xs0.length] 28)) w6 := ⟨hb6.os, hb6.tape, hb6.output, hb6.size, hb6.block⟩; have T6 := bs T5 hb6; have z6 := hb6.size; simp only [World.size_alloc] at z6; replace r0 := r0.bs zt5 hb6; replace o_x0 := o_x0.bs hb6; replace kb0_0 := cell_later hb6 kb0_0; replace kb1_0 := cell_later hb6 kb1_0; replace kb1_1 := cell_later hb6 kb1_1; replace kx_x0 := cell_later hb6 kx_x0; have zt6 := T6.size; clear T5 zt5 hb6)
      | (go_at_call 24; refine (PocketOf_any (some ⟨g5, 0, none⟩) _ (xs0) fa1 fb1 _ ?_ ?_ ?_).mono ?_; (exact o_x0.rd); (omega); (omega); rintro e w7 ⟨rfl, hb7⟩; have hb7 : Below w6.heap.size w6 w7 := ⟨hb7.os, hb7.tape, hb7.output, hb7.size, hb7.block⟩; have T7 := bs T6 hb7; have z7 := hb7.size; replace r0 := r0.bs zt6 hb7; replace o_x0 := o_x0.bs hb7; replace kb0_0 := cell_later hb7 kb0_0; replace kb1_0 := cell_later hb7 kb1_0; replace kb1_1 := cell_later hb7 kb1_1; replace kx_x0 := cell_later hb7 kx_x0; have zt7 := T7.size; clear T6 zt6 hb7)
    )
  go_wp2_with fail
  go_region_held3 (fun w' => w'.cell? ⟨w.heap.size, 0, none⟩ = some (.slice A0 xs0.length c0) ∧ w'.cell? ⟨w.heap.size + 1, 0, none⟩ = some (.int .i64 fa1) ∧ w'.cell? ⟨w.heap.size + 1, 1, none⟩ = some (.int .i64 fb1) ∧ w'.cell? ⟨w5.heap.size, 0, none⟩ = some (.slice (some ⟨g5, 0, none⟩) xs0.length xs0.length)) (first | exact ⟨kb0_0, kb1_0, kb1_1, kx_x0⟩ | go_keep)
    (first
      | (go_at_call 17; refine (toCard_any _ _ _ _ ?_ ?_).mono ?_; (exact (r0.more zt7)); (omega); rintro e w8 ⟨g8, rfl, ho8, hb8⟩; have hb8 : Below w7.heap.size w7 w8 := ⟨hb8.os, hb8.tape, hb8.output, hb8.size, hb8.block⟩; have ho8 : World.ownsRow w8 w7.heap.size _ _ _ _ _ := ho8; have T8 := bs T7 hb8; have z8 := hb8.size; replace r0 := r0.bs zt7 hb8; replace o_x0 := o_x0.bs hb8; replace kb0_0 := cell_later hb8 kb0_0; replace kb1_0 := cell_later hb8 kb1_0; replace kb1_1 := cell_later hb8 kb1_1; replace kx_x0 := cell_later hb8 kx_x0; have zt8 := T8.size; clear T7 zt7 hb8; have o_t5 := Ob.of ho8; clear ho8)
      | (go_at_call 19; refine (eqCard_same _ _ _ _ (xs0) _ ?_ ?_ ?_).mono ?_; (exact o_x0.rd); (exact o_t5.rd); (omega); rintro e w9 ⟨rfl, hb9⟩; have hb9 : Below w8.heap.size w8 w9 := ⟨hb9.os, hb9.tape, hb9.output, hb9.size, hb9.block⟩; have T9 := bs T8 hb9; have z9 := hb9.size; replace r0 := r0.bs zt8 hb9; replace o_x0 := o_x0.bs hb9; replace o_t5 := o_t5.bs hb9; replace kb0_0 := cell_later hb9 kb0_0; replace kb1_0 := cell_later hb9 kb1_0; replace kb1_1 := cell_later hb9 kb1_1; replace kx_x0 := cell_later hb9 kx_x0; have zt9 := T9.size; clear T8 zt8 hb9)
    )
  clear o_t5
  go_wp2
  go_ret
  exact ⟨rfl, T9⟩

set_option maxRecDepth 100000 in
theorem lawPocketOf_lifted (os : Os) (started : os.Started) (H : Type) (enc : TypeId × Value → H) :
    ReturnsInHanded {} Try.checked os 5 .any (Rows.fnExactPocketOfSpec.pre6 enc Try.prog Try.f5 Rows.fnExactPocketOfRow.domain false) (Rows.fnExactPocketOfSpec.post enc Try.prog Try.f5 false true false false) := by
  refine returnsInHanded_of_change (C := Try.checked) lawOwn started (by kernel_rfl) Try.func5
    (ChangeSpec.witness6 (enc := enc) (C := Try.checked) false ⟨#[], #[.agg #[.slice none 0 0], .agg #[.int .i64 0, .int .i64 0]], []⟩ 8 (by kernel_rfl) (by kernel_rfl) (by kernel_rfl) (by kernel_rfl)) ?_
  intro W base args ds gs before hval0 hW _ _
  have hval : ∀ (j : Nat) t v, Try.f5.params[j]? = some t → args[j]? = some v → Value.okWide Try.prog W .any base t v := hval0
  clear hval0
  have hW0 : DataW.Whole enc Try.prog Try.f5.params.toList Rows.fnExactPocketOfSpec.vars false W args.toList ds gs before := hW
  clear hW
  have hW := hW0
  obtain ⟨p, q, hA, hV, _, _, _⟩ := hW
  rw [Try.params5] at hA hval
  obtain ⟨v0, vs0, d0, ds0, p0, q0, hargs, rfl, rfl, h0, hA0⟩ := trodAll_cons hA
  obtain ⟨v1, vs1, d1, ds1, p1, q1, rfl, rfl, rfl, h1, hA1⟩ := trodAll_cons hA0
  obtain ⟨rfl, rfl, rfl⟩ := trodAll_nil hA1
  have hargs2 : args = #[v0, v1] := by cases args; simp_all
  clear hargs
  subst hargs2
  obtain ⟨A0, c0, xs0, rfl, hc0, hm0, r0, hz0⟩ := in_card Try.underlying24 (by kernel_rfl) (by kernel_rfl) rfl Try.underlying22 Try.underlying2 (by kernel_rfl) (hval 0 24 v0 rfl rfl) h0
  obtain ⟨fa1, fb1, rfl, ha1, hb1⟩ := in_pair Try.underlying33 (by kernel_rfl) (by kernel_rfl) rfl rfl Try.underlying2 Try.underlying2 (hval 1 33 v1 rfl rfl) h1
  have hcall : Calls Try.prog 5 #[.agg #[.slice A0 xs0.length c0], .agg #[.int .i64 fa1, .int .i64 fb1]] W fun e W' => e = .returned (.bool true) ∧ Below W.heap.size W W' := by
    by_cases s0 : xs0.length ≤ 1048576
    case neg => exact lawPocketOf_no0 A0 c0 xs0 fa1 fb1 W r0  s0 (by omega)
    exact lawPocketOf_yes A0 c0 xs0 fa1 fb1 W r0 s0
  refine hcall.mono fun e W' ⟨he, hb⟩ => ⟨_, he, ?_⟩
  exact post_law (f := Try.f5) (s := Rows.fnExactPocketOfSpec) hW0 rfl (tb := 4) rfl Try.underlying4 rfl lawLaid (by kernel_rfl) hb

theorem fnExactPocketOf_holds : Rows.FnExactPocketOfSaid :=
  OpenClaim.holds_of_wide 5 Try.f5 rfl rfl rfl rfl rfl rfl rfl ⟨rfl, rfl, rfl, rfl, rfl⟩ rfl rfl rfl rfl rfl (by kernel_rfl) Try.func5 (by kernel_rfl)
    (of_decide_eq_true (by kernel_rfl)) (by unfold Func.isWrapper; first | (rw [if_pos (by decide +kernel)]; kernel_rfl) | (rw [if_neg (by decide +kernel)]; exact ⟨rfl, rfl⟩))
    (fun os started H enc _ => lawPocketOf_lifted os started H enc)
#print axioms fnExactPocketOf_holds
end Go.Proofs.Ytlnpkijeondidaa
