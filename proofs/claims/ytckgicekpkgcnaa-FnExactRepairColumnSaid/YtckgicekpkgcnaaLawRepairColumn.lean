/- The law FnExactRepairColumn answers true at every input, and its arguments stay as they were; conditions: none. -/
import Derived.Test.YtckgicekpkgcnaaRows
import Derived.Test.YtckgicekpkgcnaaOpen
import Derived.Test.YtckgicekpkgcnaaLawBase
import Derived.Deep.RegionHeld3
import Derived.Test.YtckgicekpkgcnaaRepair
import Derived.Test.YtckgicekpkgcnaaHarnInts
namespace Go.Proofs.Ytckgicekpkgcnaa
open Go.RowKit Go.ChangeShapes Go.WideShapes Go.ChangeAt

set_option maxHeartbeats 4000000 in
theorem lawRepairColumn_yes (n0 : Int) (w : World) (hi0 : I64 n0) :
    Calls Try.prog 13 #[.int .i64 n0] w fun e w' => e = .returned (.bool true) ∧ Below w.heap.size w w' := by
  go_enter Try.func13, Try.ntmps13
  have T0 : Below w.heap.size w w := b0 w
  have zt0 := T0.size
  go_wp2_with fail
  refine (spRepairColumn_any n0 _  ).mono ?_; rintro e w1 ⟨rfl, hb1⟩
  have T1 := bs T0 hb1
  have z1 := hb1.size
  have zt1 := T1.size
  clear T0 zt0 hb1
  go_wp2_with fail
  refine (RepairColumn_any n0 _  ).mono ?_; rintro e w2 ⟨rfl, hb2⟩
  have T2 := bs T1 hb2
  have z2 := hb2.size
  have zt2 := T2.size
  clear T1 zt1 hb2
  go_wp2
  go_ret
  exact ⟨rfl, T2⟩

set_option maxRecDepth 100000 in
theorem lawRepairColumn_lifted (os : Os) (started : os.Started) (H : Type) (enc : TypeId × Value → H) :
    ReturnsInHanded {} Try.checked os 13 .any (Rows.fnExactRepairColumnSpec.pre6 enc Try.prog Try.f13 Rows.fnExactRepairColumnRow.domain false) (Rows.fnExactRepairColumnSpec.post enc Try.prog Try.f13 false true false false) := by
  refine returnsInHanded_of_change (C := Try.checked) lawOwn started (by kernel_rfl) Try.func13
    (ChangeSpec.witness6 (enc := enc) (C := Try.checked) false ⟨#[], #[.int .i64 0], []⟩ 8 (by kernel_rfl) (by kernel_rfl) (by kernel_rfl) (by kernel_rfl)) ?_
  intro W base args ds gs before hval0 hW _ _
  have hval : ∀ (j : Nat) t v, Try.f13.params[j]? = some t → args[j]? = some v → Value.okWide Try.prog W .any base t v := hval0
  clear hval0
  have hW0 : DataW.Whole enc Try.prog Try.f13.params.toList Rows.fnExactRepairColumnSpec.vars false W args.toList ds gs before := hW
  clear hW
  have hW := hW0
  obtain ⟨p, q, hA, hV, _, _, _⟩ := hW
  rw [Try.params13] at hA hval
  obtain ⟨v0, vs0, d0, ds0, p0, q0, hargs, rfl, rfl, h0, hA0⟩ := trodAll_cons hA
  obtain ⟨rfl, rfl, rfl⟩ := trodAll_nil hA0
  have hargs2 : args = #[v0] := by cases args; simp_all
  clear hargs
  subst hargs2
  obtain ⟨n0, rfl, hi0⟩ := in_int Try.underlying2 (hval 0 2 v0 rfl rfl) h0
  have hcall : Calls Try.prog 13 #[.int .i64 n0] W fun e W' => e = .returned (.bool true) ∧ Below W.heap.size W W' := by
    exact lawRepairColumn_yes n0 W hi0 
  refine hcall.mono fun e W' ⟨he, hb⟩ => ⟨_, he, ?_⟩
  exact post_law (f := Try.f13) (s := Rows.fnExactRepairColumnSpec) hW0 rfl (tb := 4) rfl Try.underlying4 rfl lawLaid (by kernel_rfl) hb

theorem fnExactRepairColumn_holds : Rows.FnExactRepairColumnSaid :=
  OpenClaim.holds_of_wide 13 Try.f13 rfl rfl rfl rfl rfl rfl rfl ⟨rfl, rfl, rfl, rfl, rfl⟩ rfl rfl rfl rfl rfl (by kernel_rfl) Try.func13 (by kernel_rfl)
    (of_decide_eq_true (by kernel_rfl)) (by unfold Func.isWrapper; first | (rw [if_pos (by decide +kernel)]; kernel_rfl) | (rw [if_neg (by decide +kernel)]; exact ⟨rfl, rfl⟩))
    (fun os started H enc _ => lawRepairColumn_lifted os started H enc)
#print axioms fnExactRepairColumn_holds
end Go.Proofs.Ytckgicekpkgcnaa
