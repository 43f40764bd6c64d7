/- The law FnExactHandledCards answers true at every input, and its arguments stay as they were; conditions: none. -/
import Derived.Test.YtckgicekpkgcnaaRows
import Derived.Test.YtckgicekpkgcnaaOpen
import Derived.Test.YtckgicekpkgcnaaLawBase
import Derived.Test.YtckgicekpkgcnaaPasses
namespace Go.Proofs.Ytckgicekpkgcnaa
open Go.RowKit Go.ChangeShapes Go.WideShapes Go.ChangeAt

set_option maxRecDepth 100000 in
theorem lawHandledCards_no0 (n0 : Int) (A1 : Option Addr) (c1 : Nat) (ps1 : List (Int × Int)) (w : World) (hi0 : I64 n0) (r1 : Rd w w.heap.size 2 A1 ps1.length (prs ps1)) (hn : ¬ ps1.length ≤ 1048576) (hm : ps1.length ≤ maxLen) :
    Calls Try.prog 4 #[.int .i64 n0, .slice A1 ps1.length c1] w fun e w' => e = .returned (.bool true) ∧ Below w.heap.size w w' := by
  go_enter Try.func4, Try.ntmps4
  have T0 : Below w.heap.size w w := b0 w
  go_wp2_with fail
  refine (szPassS_no_L _ _ _ _ _ (by omega) (by omega) hm (by omega)).mono ?_; rintro e w1 ⟨rfl, hb1⟩
  have T1 := bs T0 hb1
  go_wp2
  go_ret
  exact ⟨rfl, T1⟩

set_option maxHeartbeats 4000000 in
theorem lawHandledCards_yes (n0 : Int) (A1 : Option Addr) (c1 : Nat) (ps1 : List (Int × Int)) (w : World) (hi0 : I64 n0) (r1 : Rd w w.heap.size 2 A1 ps1.length (prs ps1)) (hl : ps1.length ≤ 1048576) :
    Calls Try.prog 4 #[.int .i64 n0, .slice A1 ps1.length c1] w fun e w' => e = .returned (.bool true) ∧ Below w.heap.size w w' := by
  go_enter Try.func4, Try.ntmps4
  have T0 : Below w.heap.size w w := b0 w
  have zt0 := T0.size
  go_wp2_with fail
  refine (szPassS_yes_L _ _ _ _ _ (by omega) (by omega)).mono ?_; rintro e w1 ⟨rfl, hb1⟩
  have T1 := bs T0 hb1
  have z1 := hb1.size
  replace r1 := r1.bs zt0 hb1
  have zt1 := T1.size
  clear T0 zt0 hb1
  go_wp2_with fail
  refine (toPassS_any _ _ _ _ (r1.more zt1) (by omega)).mono ?_; rintro e w2 ⟨g2, rfl, ho2, hb2⟩
  have T2 := bs T1 hb2
  have z2 := hb2.size
  replace r1 := r1.bs zt1 hb2
  have zt2 := T2.size
  clear T1 zt1 hb2
  have o_t1 := Ob.of ho2
  clear ho2
  go_wp2_with fail
  refine (spHandledCards_any n0 (some ⟨g2, 0, none⟩) _ (ps1) _ o_t1.rd (by omega) ).mono ?_; rintro e w3 ⟨rfl, hb3⟩
  have T3 := bs T2 hb3
  have z3 := hb3.size
  replace r1 := r1.bs zt2 hb3
  replace o_t1 := o_t1.bs hb3
  have zt3 := T3.size
  clear T2 zt2 hb3
  clear o_t1
  go_wp2_with fail
  refine (toPassS_any _ _ _ _ (r1.more zt3) (by omega)).mono ?_; rintro e w4 ⟨g4, rfl, ho4, hb4⟩
  have T4 := bs T3 hb4
  have z4 := hb4.size
  replace r1 := r1.bs zt3 hb4
  have zt4 := T4.size
  clear T3 zt3 hb4
  have o_t2 := Ob.of ho4
  clear ho4
  have o_x1 := o_t2
  clear o_t2
  go_wp2_with fail
  refine (HandledCards_any n0 (some ⟨g4, 0, none⟩) _ (ps1) _ o_x1.rd (by omega) ).mono ?_; rintro e w5 ⟨rfl, hb5⟩
  have T5 := bs T4 hb5
  have z5 := hb5.size
  replace r1 := r1.bs zt4 hb5
  replace o_x1 := o_x1.bs hb5
  have zt5 := T5.size
  clear T4 zt4 hb5
  go_wp2_with fail
  refine (toPassS_any _ _ _ _ (r1.more zt5) (by omega)).mono ?_; rintro e w6 ⟨g6, rfl, ho6, hb6⟩
  have T6 := bs T5 hb6
  have z6 := hb6.size
  replace r1 := r1.bs zt5 hb6
  replace o_x1 := o_x1.bs hb6
  have zt6 := T6.size
  clear T5 zt5 hb6
  have o_t3 := Ob.of ho6
  clear ho6
  go_wp2_with fail
  refine (eqPassS_same _ _ _ _ (ps1) _ o_x1.rd o_t3.rd (by omega)).mono ?_; rintro e w7 ⟨rfl, hb7⟩
  have T7 := bs T6 hb7
  have z7 := hb7.size
  replace r1 := r1.bs zt6 hb7
  replace o_x1 := o_x1.bs hb7
  replace o_t3 := o_t3.bs hb7
  have zt7 := T7.size
  clear T6 zt6 hb7
  clear o_t3
  go_wp2
  go_ret
  exact ⟨rfl, T7⟩

set_option maxRecDepth 100000 in
theorem lawHandledCards_lifted (os : Os) (started : os.Started) (H : Type) (enc : TypeId × Value → H) :
    ReturnsInHanded {} Try.checked os 4 .any (Rows.fnExactHandledCardsSpec.pre6 enc Try.prog Try.f4 Rows.fnExactHandledCardsRow.domain false) (Rows.fnExactHandledCardsSpec.post enc Try.prog Try.f4 false true false false) := by
  refine returnsInHanded_of_change (C := Try.checked) lawOwn started (by kernel_rfl) Try.func4
    (ChangeSpec.witness6 (enc := enc) (C := Try.checked) false ⟨#[], #[.int .i64 0, .slice none 0 0], []⟩ 8 (by kernel_rfl) (by kernel_rfl) (by kernel_rfl) (by kernel_rfl)) ?_
  intro W base args ds gs before hval0 hW _ _
  have hval : ∀ (j : Nat) t v, Try.f4.params[j]? = some t → args[j]? = some v → Value.okWide Try.prog W .any base t v := hval0
  clear hval0
  have hW0 : DataW.Whole enc Try.prog Try.f4.params.toList Rows.fnExactHandledCardsSpec.vars false W args.toList ds gs before := hW
  clear hW
  have hW := hW0
  obtain ⟨p, q, hA, hV, _, _, _⟩ := hW
  rw [Try.params4] at hA hval
  obtain ⟨v0, vs0, d0, ds0, p0, q0, hargs, rfl, rfl, h0, hA0⟩ := trodAll_cons hA
  obtain ⟨v1, vs1, d1, ds1, p1, q1, rfl, rfl, rfl, h1, hA1⟩ := trodAll_cons hA0
  obtain ⟨rfl, rfl, rfl⟩ := trodAll_nil hA1
  have hargs2 : args = #[v0, v1] := by cases args; simp_all
  clear hargs
  subst hargs2
  obtain ⟨n0, rfl, hi0⟩ := in_int Try.underlying2 (hval 0 2 v0 rfl rfl) h0
  obtain ⟨A1, c1, ps1, rfl, hc1, hm1, r1, hz1⟩ := in_pairs Try.underlying32 Try.underlying81 (by kernel_rfl) (by kernel_rfl) rfl rfl Try.underlying2 Try.underlying2 (hval 1 32 v1 rfl rfl) h1
  have hcall : Calls Try.prog 4 #[.int .i64 n0, .slice A1 ps1.length c1] W fun e W' => e = .returned (.bool true) ∧ Below W.heap.size W W' := by
    by_cases s0 : ps1.length ≤ 1048576
    case neg => exact lawHandledCards_no0 n0 A1 c1 ps1 W hi0 r1  s0 (by omega)
    exact lawHandledCards_yes n0 A1 c1 ps1 W hi0 r1 s0
  refine hcall.mono fun e W' ⟨he, hb⟩ => ⟨_, he, ?_⟩
  exact post_law (f := Try.f4) (s := Rows.fnExactHandledCardsSpec) hW0 rfl (tb := 4) rfl Try.underlying4 rfl lawLaid (by kernel_rfl) hb

theorem fnExactHandledCards_holds : Rows.FnExactHandledCardsSaid :=
  OpenClaim.holds_of_wide 4 Try.f4 rfl rfl rfl rfl rfl rfl rfl ⟨rfl, rfl, rfl, rfl, rfl⟩ rfl rfl rfl rfl rfl (by kernel_rfl) Try.func4 (by kernel_rfl)
    (of_decide_eq_true (by kernel_rfl)) (by unfold Func.isWrapper; first | (rw [if_pos (by decide +kernel)]; kernel_rfl) | (rw [if_neg (by decide +kernel)]; exact ⟨rfl, rfl⟩))
    (fun os started H enc _ => lawHandledCards_lifted os started H enc)
#print axioms fnExactHandledCards_holds
end Go.Proofs.Ytckgicekpkgcnaa
