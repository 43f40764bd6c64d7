/- The law FnExactIsPlanFor answers true at every input, and its arguments stay as they were; conditions: none. -/
import Derived.Test.YteeaeomkpecflaaRows
import Derived.Test.YteeaeomkpecflaaOpen
import Derived.Test.YteeaeomkpecflaaLawBase
import Derived.Deep.RegionHeld3
import Derived.Deep.DeepCutAuto
import Derived.Test.YteeaeomkpecflaaSorts
import Derived.Test.YteeaeomkpecflaaHarnPass
import Derived.Test.YteeaeomkpecflaaHarnDeck
import Derived.Test.YteeaeomkpecflaaOpenDeck
namespace Go.Proofs.Yteeaeomkpecflaa
open Go.RowKit Go.ChangeShapes Go.WideShapes Go.ChangeAt

set_option maxRecDepth 100000 in
theorem lawIsPlanFor_no0 (D0 : Option Addr) (c0 : Nat) (hs0 : List Hd) (fa1 fb1 : Int) (A2 : Option Addr) (c2 : Nat) (ps2 : List (Int × Int)) (w : World) (r0 : RdD w w.heap.size D0 hs0) (_r2 : Rd w w.heap.size 2 A2 ps2.length (prs ps2)) (hn : ¬ (hs0.length + tot hs0) ≤ 1048576) (hm : hs0.length ≤ maxLen ∧ ∀ h ∈ hs0, h.xs.length ≤ maxLen) :
    Calls Try.prog 7 #[.slice D0 hs0.length c0, .agg #[.int .i64 fa1, .int .i64 fb1], .slice A2 ps2.length c2] w fun e w' => e = .returned (.bool true) ∧ Below w.heap.size w w' := by
  go_enter Try.func7, Try.ntmps7
  have T0 : Below w.heap.size w (w.alloc (.cells #[.int .i64 fa1, .int .i64 fb1] 24)) := ba (b0 w) _
  have kb0_0 : World.cell? (w.alloc (.cells #[.int .i64 fa1, .int .i64 fb1] 24)) ⟨w.heap.size, 0, none⟩ = some (.int .i64 fa1) := by simp
  have kb0_1 : World.cell? (w.alloc (.cells #[.int .i64 fa1, .int .i64 fb1] 24)) ⟨w.heap.size, 1, none⟩ = some (.int .i64 fb1) := by simp
  go_wp2_with fail
  refine (szCardS_no _ _ _ _ _ ((r0.below T0).more T0.size) (by omega) (by omega) hm (by omega)).mono ?_; rintro e w1 ⟨rfl, hb1⟩
  have T1 := bs T0 hb1
  go_wp2
  go_ret
  exact ⟨rfl, T1⟩

set_option maxRecDepth 100000 in
theorem lawIsPlanFor_no1 (D0 : Option Addr) (c0 : Nat) (hs0 : List Hd) (fa1 fb1 : Int) (A2 : Option Addr) (c2 : Nat) (ps2 : List (Int × Int)) (w : World) (r0 : RdD w w.heap.size D0 hs0) (_r2 : Rd w w.heap.size 2 A2 ps2.length (prs ps2)) (hl : (hs0.length + tot hs0) ≤ 1048576) (hn : ¬ (hs0.length + tot hs0) + ps2.length ≤ 1048576) (hm : ps2.length ≤ maxLen) :
    Calls Try.prog 7 #[.slice D0 hs0.length c0, .agg #[.int .i64 fa1, .int .i64 fb1], .slice A2 ps2.length c2] w fun e w' => e = .returned (.bool true) ∧ Below w.heap.size w w' := by
  go_enter Try.func7, Try.ntmps7
  have T0 : Below w.heap.size w (w.alloc (.cells #[.int .i64 fa1, .int .i64 fb1] 24)) := ba (b0 w) _
  have kb0_0 : World.cell? (w.alloc (.cells #[.int .i64 fa1, .int .i64 fb1] 24)) ⟨w.heap.size, 0, none⟩ = some (.int .i64 fa1) := by simp
  have kb0_1 : World.cell? (w.alloc (.cells #[.int .i64 fa1, .int .i64 fb1] 24)) ⟨w.heap.size, 1, none⟩ = some (.int .i64 fb1) := by simp
  go_wp2_with fail
  refine (szCardS_yes _ _ _ _ _ ((r0.below T0).more T0.size) (by omega) (by omega)).mono ?_; rintro e w1 ⟨rfl, hb1⟩
  have T1 := bs T0 hb1
  replace kb0_0 := cell_later hb1 kb0_0
  replace kb0_1 := cell_later hb1 kb0_1
  go_wp2_with fail
  refine (szPassS_no_L _ _ _ _ _ (by omega) (by omega) hm (by omega)).mono ?_; rintro e w2 ⟨rfl, hb2⟩
  have T2 := bs T1 hb2
  go_wp2
  go_ret
  exact ⟨rfl, T2⟩

set_option maxRecDepth 100000 in
set_option maxHeartbeats 8000000 in
theorem lawIsPlanFor_yes (D0 : Option Addr) (c0 : Nat) (hs0 : List Hd) (fa1 fb1 : Int) (A2 : Option Addr) (c2 : Nat) (ps2 : List (Int × Int)) (w : World) (r0 : RdD w w.heap.size D0 hs0) (r2 : Rd w w.heap.size 2 A2 ps2.length (prs ps2)) (hl : (hs0.length + tot hs0) + ps2.length ≤ 1048576) :
    Calls Try.prog 7 #[.slice D0 hs0.length c0, .agg #[.int .i64 fa1, .int .i64 fb1], .slice A2 ps2.length c2] w fun e w' => e = .returned (.bool true) ∧ Below w.heap.size w w' := by
  go_enter Try.func7, Try.ntmps7
  have T0 : Below w.heap.size w (w.alloc (.cells #[.int .i64 fa1, .int .i64 fb1] 24)) := ba (b0 w) _
  have zt0 := T0.size
  have kb0_0 : World.cell? (w.alloc (.cells #[.int .i64 fa1, .int .i64 fb1] 24)) ⟨w.heap.size, 0, none⟩ = some (.int .i64 fa1) := by simp
  have kb0_1 : World.cell? (w.alloc (.cells #[.int .i64 fa1, .int .i64 fb1] 24)) ⟨w.heap.size, 1, none⟩ = some (.int .i64 fb1) := by simp
  replace r0 := r0.below T0
  replace r2 := r2.below T0
  go_wp2_with fail
  refine (szCardS_yes _ _ _ _ _ (r0.more zt0) (by omega) (by omega)).mono ?_; rintro e w1 ⟨rfl, hb1⟩
  have T1 := bs T0 hb1
  have z1 := hb1.size
  simp only [World.size_alloc] at z1
  replace r0 := r0.bs zt0 hb1
  replace r2 := r2.bs zt0 hb1
  replace kb0_0 := cell_later hb1 kb0_0
  replace kb0_1 := cell_later hb1 kb0_1
  have zt1 := T1.size
  clear T0 zt0 hb1
  go_wp2_with fail
  refine (szPassS_yes_L _ _ _ _ _ (by omega) (by omega)).mono ?_; rintro e w2 ⟨rfl, hb2⟩
  have T2 := bs T1 hb2
  have z2 := hb2.size
  replace r0 := r0.bs zt1 hb2
  replace r2 := r2.bs zt1 hb2
  replace kb0_0 := cell_later hb2 kb0_0
  replace kb0_1 := cell_later hb2 kb0_1
  have zt2 := T2.size
  clear T1 zt1 hb2
  go_wp2_with fail
  go_region_held3 (fun w' => w'.cell? ⟨w.heap.size, 0, none⟩ = some (.int .i64 fa1) ∧ w'.cell? ⟨w.heap.size, 1, none⟩ = some (.int .i64 fb1)) (first | exact ⟨kb0_0, kb0_1⟩ | go_keep)
    (first
      | (go_at_call 14; refine (toCardS_any _ _ _ _ ?_ ?_).mono ?_; (first | exact (r0.more zt2) | exact ((r0.more zt2)).drew); (omega); rintro e w3 ⟨g3, gs3, rfl, hcs3, ho3, hb3⟩; have hb3 : Below w2.heap.size w2 w3 := ⟨hb3.os, hb3.tape, hb3.output, hb3.size, hb3.block⟩; have ho3 : ObD w3 w2.heap.size _ _ _ _ _ _ := ho3; have T3 := bs T2 hb3; have z3 := hb3.size; replace r0 := r0.bs zt2 hb3; replace r2 := r2.bs zt2 hb3; replace kb0_0 := cell_later hb3 kb0_0; replace kb0_1 := cell_later hb3 kb0_1; have zt3 := T3.size; clear T2 zt2 hb3; have o_t1 := ho3; clear ho3; have bd_t1 : gs3.length + tot gs3 ≤ 1048576 := (by have h1 := tot_cards hcs3; have h2 := (cards_same hcs3).1; omega))
      | (go_at_call 15; refine (toField_any _ _ _).mono ?_; rintro e w4 ⟨rfl, hb4⟩; have hb4 : Below w3.heap.size w3 w4 := ⟨hb4.os, hb4.tape, hb4.output, hb4.size, hb4.block⟩; have T4 := bs T3 hb4; have z4 := hb4.size; replace r0 := r0.bs zt3 hb4; replace r2 := r2.bs zt3 hb4; replace o_t1 := o_t1.bs hb4; replace kb0_0 := cell_later hb4 kb0_0; replace kb0_1 := cell_later hb4 kb0_1; have zt4 := T4.size; clear T3 zt3 hb4)
      | (go_at_call 35; refine (toPassS_any _ _ _ _ ?_ ?_).mono ?_; (first | exact (r2.more zt4) | exact ((r2.more zt4)).drew); (omega); rintro e w5 ⟨g5, rfl, ho5, hb5⟩; have hb5 : Below w4.heap.size w4 w5 := ⟨hb5.os, hb5.tape, hb5.output, hb5.size, hb5.block⟩; have ho5 : World.ownsRow w5 w4.heap.size _ _ _ _ _ := ho5; have T5 := bs T4 hb5; have z5 := hb5.size; replace r0 := r0.bs zt4 hb5; replace r2 := r2.bs zt4 hb5; replace o_t1 := o_t1.bs hb5; replace kb0_0 := cell_later hb5 kb0_0; replace kb0_1 := cell_later hb5 kb0_1; have zt5 := T5.size; clear T4 zt4 hb5; have o_t3 := Ob.of ho5; clear ho5)
      | (go_at_call 34; refine (spIsPlanFor_any (some ⟨g3, 0, none⟩) _ gs3 (cards hs0) fa1 fb1 (some ⟨g5, 0, none⟩) _ (ps2) _ ?_ hcs3 bd_t1 ?_ ?_ ?_).mono ?_; (first | exact o_t1.rd | exact (o_t1.rd).drew); (exact o_t1.cap.1); (first | exact o_t3.rd | exact (o_t3.rd).drew); (omega); rintro e w6 ⟨rfl, hb6⟩; have hb6 : Below w5.heap.size w5 w6 := ⟨hb6.os, hb6.tape, hb6.output, hb6.size, hb6.block⟩; have T6 := bs T5 hb6; have z6 := hb6.size; replace r0 := r0.bs zt5 hb6; replace r2 := r2.bs zt5 hb6; replace o_t1 := o_t1.bs hb6; replace o_t3 := o_t3.bs hb6; replace kb0_0 := cell_later hb6 kb0_0; replace kb0_1 := cell_later hb6 kb0_1; have zt6 := T6.size; clear T5 zt5 hb6)
    )
  clear o_t1
  clear o_t3
  go_wp2_with fail
  refine (toCardS_any _ _ _ _ (r0.more zt6) (by omega)).mono ?_; rintro e w7 ⟨g7, gs7, rfl, hcs7, ho7, hb7⟩
  have T7 := bs T6 hb7
  have z7 := hb7.size
  replace r0 := r0.bs zt6 hb7
  replace r2 := r2.bs zt6 hb7
  replace kb0_0 := cell_later hb7 kb0_0
  replace kb0_1 := cell_later hb7 kb0_1
  have zt7 := T7.size
  clear T6 zt6 hb7
  have o_t4 := ho7
  clear ho7
  have bd_t4 : gs7.length + tot gs7 ≤ 1048576 := by have h1 := tot_cards hcs7; have h2 := (cards_same hcs7).1; omega
  have o_x0 := o_t4
  clear o_t4
  go_wp2_with fail
  refine (toPassS_any _ _ _ _ (r2.more zt7) (by omega)).mono ?_; rintro e w8 ⟨g8, rfl, ho8, hb8⟩
  have T8 := bs T7 hb8
  have z8 := hb8.size
  replace r0 := r0.bs zt7 hb8
  replace r2 := r2.bs zt7 hb8
  replace o_x0 := o_x0.bs hb8
  replace kb0_0 := cell_later hb8 kb0_0
  replace kb0_1 := cell_later hb8 kb0_1
  have zt8 := T8.size
  clear T7 zt7 hb8
  have o_t5 := Ob.of ho8
  clear ho8
  have o_x2 := o_t5
  clear o_t5
  go_wp2_with fail
  refine (toField_any _ _ _).mono ?_; rintro e w9 ⟨rfl, hb9⟩
  have T9 := bs T8 hb9
  have z9 := hb9.size
  replace r0 := r0.bs zt8 hb9
  replace r2 := r2.bs zt8 hb9
  replace o_x0 := o_x0.bs hb9
  replace o_x2 := o_x2.bs hb9
  replace kb0_0 := cell_later hb9 kb0_0
  replace kb0_1 := cell_later hb9 kb0_1
  have zt9 := T9.size
  clear T8 zt8 hb9
  go_wp2_with fail
  refine (IsPlanFor_any (some ⟨g7, 0, none⟩) _ gs7 (cards hs0) fa1 fb1 (some ⟨g8, 0, none⟩) _ (ps2) _ o_x0.rd hcs7 bd_t4 o_x0.cap.1 o_x2.rd (by omega) ).mono ?_; rintro e w10 ⟨rfl, hb10⟩
  have T10 := bs T9 hb10
  have z10 := hb10.size
  replace r0 := r0.bs zt9 hb10
  replace r2 := r2.bs zt9 hb10
  replace o_x0 := o_x0.bs hb10
  replace o_x2 := o_x2.bs hb10
  replace kb0_0 := cell_later hb10 kb0_0
  replace kb0_1 := cell_later hb10 kb0_1
  have zt10 := T10.size
  clear T9 zt9 hb10
  go_wp2_with fail
  refine (toCardS_any _ _ _ _ (r0.more zt10) (by omega)).mono ?_; rintro e w11 ⟨g11, gs11, rfl, hcs11, ho11, hb11⟩
  have T11 := bs T10 hb11
  have z11 := hb11.size
  replace r0 := r0.bs zt10 hb11
  replace r2 := r2.bs zt10 hb11
  replace o_x0 := o_x0.bs hb11
  replace o_x2 := o_x2.bs hb11
  replace kb0_0 := cell_later hb11 kb0_0
  replace kb0_1 := cell_later hb11 kb0_1
  have zt11 := T11.size
  clear T10 zt10 hb11
  have o_t7 := ho11
  clear ho11
  have bd_t7 : gs11.length + tot gs11 ≤ 1048576 := by have h1 := tot_cards hcs11; have h2 := (cards_same hcs11).1; omega
  go_wp2_with fail
  refine (eqCardS_same _ _ _ _ gs7 gs11 _ o_x0.rd o_t7.rd (hcs7.trans hcs11.symm) bd_t4).mono ?_; rintro e w12 ⟨rfl, hb12⟩
  have T12 := bs T11 hb12
  have z12 := hb12.size
  replace r0 := r0.bs zt11 hb12
  replace r2 := r2.bs zt11 hb12
  replace o_x0 := o_x0.bs hb12
  replace o_x2 := o_x2.bs hb12
  replace o_t7 := o_t7.bs hb12
  replace kb0_0 := cell_later hb12 kb0_0
  replace kb0_1 := cell_later hb12 kb0_1
  have zt12 := T12.size
  clear T11 zt11 hb12
  clear o_t7
  go_wp2_with fail
  refine (toPassS_any _ _ _ _ (r2.more zt12) (by omega)).mono ?_; rintro e w13 ⟨g13, rfl, ho13, hb13⟩
  have T13 := bs T12 hb13
  have z13 := hb13.size
  replace r0 := r0.bs zt12 hb13
  replace r2 := r2.bs zt12 hb13
  replace o_x0 := o_x0.bs hb13
  replace o_x2 := o_x2.bs hb13
  replace kb0_0 := cell_later hb13 kb0_0
  replace kb0_1 := cell_later hb13 kb0_1
  have zt13 := T13.size
  clear T12 zt12 hb13
  have o_t8 := Ob.of ho13
  clear ho13
  go_wp2_with fail
  refine (eqPassS_same _ _ _ _ (ps2) _ o_x2.rd o_t8.rd (by omega)).mono ?_; rintro e w14 ⟨rfl, hb14⟩
  have T14 := bs T13 hb14
  have z14 := hb14.size
  replace r0 := r0.bs zt13 hb14
  replace r2 := r2.bs zt13 hb14
  replace o_x0 := o_x0.bs hb14
  replace o_x2 := o_x2.bs hb14
  replace o_t8 := o_t8.bs hb14
  replace kb0_0 := cell_later hb14 kb0_0
  replace kb0_1 := cell_later hb14 kb0_1
  have zt14 := T14.size
  clear T13 zt13 hb14
  clear o_t8
  go_wp2
  go_ret
  exact ⟨rfl, T14⟩

set_option maxRecDepth 100000 in
theorem lawIsPlanFor_lifted (os : Os) (started : os.Started) (H : Type) (enc : TypeId × Value → H) :
    ReturnsInHanded {} Try.checked os 7 .any (Rows.fnExactIsPlanForSpec.pre6 enc Try.prog Try.f7 Rows.fnExactIsPlanForRow.domain false) (Rows.fnExactIsPlanForSpec.post enc Try.prog Try.f7 false true false false) := by
  refine returnsInHanded_of_change (C := Try.checked) lawOwn started (by kernel_rfl) Try.func7
    (ChangeSpec.witness6 (enc := enc) (C := Try.checked) false ⟨#[], #[.slice none 0 0, .agg #[.int .i64 0, .int .i64 0], .slice none 0 0], []⟩ 8 (by kernel_rfl) (by kernel_rfl) (by kernel_rfl) (by kernel_rfl)) ?_
  intro W base args ds gs before hval0 hW _ _
  have hval : ∀ (j : Nat) t v, Try.f7.params[j]? = some t → args[j]? = some v → Value.okWide Try.prog W .any base t v := hval0
  clear hval0
  have hW0 : DataW.Whole enc Try.prog Try.f7.params.toList Rows.fnExactIsPlanForSpec.vars false W args.toList ds gs before := hW
  clear hW
  have hW := hW0
  obtain ⟨p, q, hA, hV, _, _, _⟩ := hW
  rw [Try.params7] at hA hval
  obtain ⟨v0, vs0, d0, ds0, p0, q0, hargs, rfl, rfl, h0, hA0⟩ := trodAll_cons hA
  obtain ⟨v1, vs1, d1, ds1, p1, q1, rfl, rfl, rfl, h1, hA1⟩ := trodAll_cons hA0
  obtain ⟨v2, vs2, d2, ds2, p2, q2, rfl, rfl, rfl, h2, hA2⟩ := trodAll_cons hA1
  obtain ⟨rfl, rfl, rfl⟩ := trodAll_nil hA2
  have hargs2 : args = #[v0, v1, v2] := by cases args; simp_all
  clear hargs
  subst hargs2
  obtain ⟨D0, c0, hs0, rfl, hc0, hm0, r0, hz0⟩ := in_deck Try.underlying22 Try.underlying43 (by kernel_rfl) (by kernel_rfl) rfl Try.underlying26 Try.underlying2 (by kernel_rfl) (hval 0 22 v0 rfl rfl) h0
  obtain ⟨fa1, fb1, rfl, ha1, hb1⟩ := in_pair Try.underlying24 (by kernel_rfl) (by kernel_rfl) rfl rfl Try.underlying2 Try.underlying2 (hval 1 24 v1 rfl rfl) h1
  obtain ⟨A2, c2, ps2, rfl, hc2, hm2, r2, hz2⟩ := in_pairs Try.underlying51 Try.underlying107 (by kernel_rfl) (by kernel_rfl) rfl rfl Try.underlying2 Try.underlying2 (hval 2 51 v2 rfl rfl) h2
  have hcall : Calls Try.prog 7 #[.slice D0 hs0.length c0, .agg #[.int .i64 fa1, .int .i64 fb1], .slice A2 ps2.length c2] W fun e W' => e = .returned (.bool true) ∧ Below W.heap.size W W' := by
    by_cases s0 : (hs0.length + tot hs0) ≤ 1048576
    case neg => exact lawIsPlanFor_no0 D0 c0 hs0 fa1 fb1 A2 c2 ps2 W r0 r2  s0 ⟨by omega, fun h hh => Nat.le_trans (r0.cap h hh) (hz0 h hh).1⟩
    by_cases s1 : (hs0.length + tot hs0) + ps2.length ≤ 1048576
    case neg => exact lawIsPlanFor_no1 D0 c0 hs0 fa1 fb1 A2 c2 ps2 W r0 r2 s0 s1 (by omega)
    exact lawIsPlanFor_yes D0 c0 hs0 fa1 fb1 A2 c2 ps2 W r0 r2 s1
  refine hcall.mono fun e W' ⟨he, hb⟩ => ⟨_, he, ?_⟩
  exact post_law (f := Try.f7) (s := Rows.fnExactIsPlanForSpec) hW0 rfl (tb := 4) rfl Try.underlying4 rfl lawLaid (by kernel_rfl) hb

theorem fnExactIsPlanFor_holds : Rows.FnExactIsPlanForSaid :=
  OpenClaim.holds_of_wide 7 Try.f7 rfl rfl rfl rfl rfl rfl rfl ⟨rfl, rfl, rfl, rfl, rfl⟩ rfl rfl rfl rfl rfl (by kernel_rfl) Try.func7 (by kernel_rfl)
    (of_decide_eq_true (by kernel_rfl)) (by unfold Func.isWrapper; first | (rw [if_pos (by decide +kernel)]; kernel_rfl) | (rw [if_neg (by decide +kernel)]; exact ⟨rfl, rfl⟩))
    (fun os started H enc _ => lawIsPlanFor_lifted os started H enc)
#print axioms fnExactIsPlanFor_holds
end Go.Proofs.Yteeaeomkpecflaa
