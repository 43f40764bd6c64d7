/- The law FnExactValidCopies answers true at every input, and its arguments stay as they were; conditions: none. -/
import Derived.Test.YtckgicekpkgcnaaRows
import Derived.Test.YtckgicekpkgcnaaOpen
import Derived.Test.YtckgicekpkgcnaaLawBase
import Derived.Test.YtckgicekpkgcnaaValidCopies
import Derived.Test.YtckgicekpkgcnaaHarnCopy
namespace Go.Proofs.Ytckgicekpkgcnaa
open Go.RowKit Go.ChangeShapes Go.WideShapes Go.ChangeAt

set_option maxRecDepth 100000 in
theorem lawValidCopies_no0 (A0 : Option Addr) (c0 : Nat) (ps0 : List (Int × Int)) (n1 : Int) (n2 : Int) (w : World) (r0 : Rd w w.heap.size 2 A0 ps0.length (prs ps0)) (hi1 : I64 n1) (hi2 : I64 n2) (hn : ¬ ps0.length ≤ 1048576) (hm : ps0.length ≤ maxLen) :
    Calls Try.prog 5 #[.slice A0 ps0.length c0, .int .i64 n1, .int .i64 n2] w fun e w' => e = .returned (.bool true) ∧ Below w.heap.size w w' := by
  go_enter Try.func5, Try.ntmps5
  have T0 : Below w.heap.size w w := b0 w
  go_wp2_with fail
  refine (szCopyS_no_L _ _ _ _ _ (by omega) (by omega) hm (by omega)).mono ?_; rintro e w1 ⟨rfl, hb1⟩
  have T1 := bs T0 hb1
  go_wp2
  go_ret
  exact ⟨rfl, T1⟩

set_option maxHeartbeats 4000000 in
theorem lawValidCopies_yes (A0 : Option Addr) (c0 : Nat) (ps0 : List (Int × Int)) (n1 : Int) (n2 : Int) (w : World) (r0 : Rd w w.heap.size 2 A0 ps0.length (prs ps0)) (hi1 : I64 n1) (hi2 : I64 n2) (hl : ps0.length ≤ 1048576) :
    Calls Try.prog 5 #[.slice A0 ps0.length c0, .int .i64 n1, .int .i64 n2] w fun e w' => e = .returned (.bool true) ∧ Below w.heap.size w w' := by
  go_enter Try.func5, Try.ntmps5
  have T0 : Below w.heap.size w w := b0 w
  have zt0 := T0.size
  go_wp2_with fail
  refine (szCopyS_yes_L _ _ _ _ _ (by omega) (by omega)).mono ?_; rintro e w1 ⟨rfl, hb1⟩
  have T1 := bs T0 hb1
  have z1 := hb1.size
  replace r0 := r0.bs zt0 hb1
  have zt1 := T1.size
  clear T0 zt0 hb1
  go_wp2_with fail
  refine (toCopyS_any _ _ _ _ (r0.more zt1) (by omega)).mono ?_; rintro e w2 ⟨g2, rfl, ho2, hb2⟩
  have T2 := bs T1 hb2
  have z2 := hb2.size
  replace r0 := r0.bs zt1 hb2
  have zt2 := T2.size
  clear T1 zt1 hb2
  have o_t1 := Ob.of ho2
  clear ho2
  go_wp2_with fail
  refine (spValidCopies_any (some ⟨g2, 0, none⟩) _ (ps0) n1 n2 _ o_t1.rd (by omega) ).mono ?_; rintro e w3 ⟨rfl, hb3⟩
  have T3 := bs T2 hb3
  have z3 := hb3.size
  replace r0 := r0.bs zt2 hb3
  replace o_t1 := o_t1.bs hb3
  have zt3 := T3.size
  clear T2 zt2 hb3
  clear o_t1
  go_wp2_with fail
  refine (toCopyS_any _ _ _ _ (r0.more zt3) (by omega)).mono ?_; rintro e w4 ⟨g4, rfl, ho4, hb4⟩
  have T4 := bs T3 hb4
  have z4 := hb4.size
  replace r0 := r0.bs zt3 hb4
  have zt4 := T4.size
  clear T3 zt3 hb4
  have o_t2 := Ob.of ho4
  clear ho4
  have o_x0 := o_t2
  clear o_t2
  go_wp2_with fail
  refine (ValidCopies_any (some ⟨g4, 0, none⟩) _ (ps0) n1 n2 _ o_x0.rd (by omega) ).mono ?_; rintro e w5 ⟨rfl, hb5⟩
  have T5 := bs T4 hb5
  have z5 := hb5.size
  replace r0 := r0.bs zt4 hb5
  replace o_x0 := o_x0.bs hb5
  have zt5 := T5.size
  clear T4 zt4 hb5
  go_wp2_with fail
  refine (toCopyS_any _ _ _ _ (r0.more zt5) (by omega)).mono ?_; rintro e w6 ⟨g6, rfl, ho6, hb6⟩
  have T6 := bs T5 hb6
  have z6 := hb6.size
  replace r0 := r0.bs zt5 hb6
  replace o_x0 := o_x0.bs hb6
  have zt6 := T6.size
  clear T5 zt5 hb6
  have o_t3 := Ob.of ho6
  clear ho6
  go_wp2_with fail
  refine (eqCopyS_same _ _ _ _ (ps0) _ o_x0.rd o_t3.rd (by omega)).mono ?_; rintro e w7 ⟨rfl, hb7⟩
  have T7 := bs T6 hb7
  have z7 := hb7.size
  replace r0 := r0.bs zt6 hb7
  replace o_x0 := o_x0.bs hb7
  replace o_t3 := o_t3.bs hb7
  have zt7 := T7.size
  clear T6 zt6 hb7
  clear o_t3
  go_wp2
  go_ret
  exact ⟨rfl, T7⟩

set_option maxRecDepth 100000 in
theorem lawValidCopies_lifted (os : Os) (started : os.Started) (H : Type) (enc : TypeId × Value → H) :
    ReturnsInHanded {} Try.checked os 5 .any (Rows.fnExactValidCopiesSpec.pre6 enc Try.prog Try.f5 Rows.fnExactValidCopiesRow.domain false) (Rows.fnExactValidCopiesSpec.post enc Try.prog Try.f5 false true false false) := by
  refine returnsInHanded_of_change (C := Try.checked) lawOwn started (by kernel_rfl) Try.func5
    (ChangeSpec.witness6 (enc := enc) (C := Try.checked) false ⟨#[], #[.slice none 0 0, .int .i64 0, .int .i64 0], []⟩ 8 (by kernel_rfl) (by kernel_rfl) (by kernel_rfl) (by kernel_rfl)) ?_
  intro W base args ds gs before hval0 hW _ _
  have hval : ∀ (j : Nat) t v, Try.f5.params[j]? = some t → args[j]? = some v → Value.okWide Try.prog W .any base t v := hval0
  clear hval0
  have hW0 : DataW.Whole enc Try.prog Try.f5.params.toList Rows.fnExactValidCopiesSpec.vars false W args.toList ds gs before := hW
  clear hW
  have hW := hW0
  obtain ⟨p, q, hA, hV, _, _, _⟩ := hW
  rw [Try.params5] at hA hval
  obtain ⟨v0, vs0, d0, ds0, p0, q0, hargs, rfl, rfl, h0, hA0⟩ := trodAll_cons hA
  obtain ⟨v1, vs1, d1, ds1, p1, q1, rfl, rfl, rfl, h1, hA1⟩ := trodAll_cons hA0
  obtain ⟨v2, vs2, d2, ds2, p2, q2, rfl, rfl, rfl, h2, hA2⟩ := trodAll_cons hA1
  obtain ⟨rfl, rfl, rfl⟩ := trodAll_nil hA2
  have hargs2 : args = #[v0, v1, v2] := by cases args; simp_all
  clear hargs
  subst hargs2
  obtain ⟨A0, c0, ps0, rfl, hc0, hm0, r0, hz0⟩ := in_pairs Try.underlying38 Try.underlying87 (by kernel_rfl) (by kernel_rfl) rfl rfl Try.underlying2 Try.underlying2 (hval 0 38 v0 rfl rfl) h0
  obtain ⟨n1, rfl, hi1⟩ := in_int Try.underlying2 (hval 1 2 v1 rfl rfl) h1
  obtain ⟨n2, rfl, hi2⟩ := in_int Try.underlying2 (hval 2 2 v2 rfl rfl) h2
  have hcall : Calls Try.prog 5 #[.slice A0 ps0.length c0, .int .i64 n1, .int .i64 n2] W fun e W' => e = .returned (.bool true) ∧ Below W.heap.size W W' := by
    by_cases s0 : ps0.length ≤ 1048576
    case neg => exact lawValidCopies_no0 A0 c0 ps0 n1 n2 W r0 hi1 hi2  s0 (by omega)
    exact lawValidCopies_yes A0 c0 ps0 n1 n2 W r0 hi1 hi2 s0
  refine hcall.mono fun e W' ⟨he, hb⟩ => ⟨_, he, ?_⟩
  exact post_law (f := Try.f5) (s := Rows.fnExactValidCopiesSpec) hW0 rfl (tb := 4) rfl Try.underlying4 rfl lawLaid (by kernel_rfl) hb

theorem fnExactValidCopies_holds : Rows.FnExactValidCopiesSaid :=
  OpenClaim.holds_of_wide 5 Try.f5 rfl rfl rfl rfl rfl rfl rfl ⟨rfl, rfl, rfl, rfl, rfl⟩ rfl rfl rfl rfl rfl (by kernel_rfl) Try.func5 (by kernel_rfl)
    (of_decide_eq_true (by kernel_rfl)) (by unfold Func.isWrapper; first | (rw [if_pos (by decide +kernel)]; kernel_rfl) | (rw [if_neg (by decide +kernel)]; exact ⟨rfl, rfl⟩))
    (fun os started H enc _ => lawValidCopies_lifted os started H enc)
#print axioms fnExactValidCopies_holds
end Go.Proofs.Ytckgicekpkgcnaa
