/- The law FnExactReadRuns answers true at every input, and its argument stays as it was; condition: the listed tables and errors of the library. The card of it. -/
import Derived.Test.YtkmejkeanmjfbaaDoorCards
import Derived.Test.YtkmejkeanmjfbaaDoorTie
import Derived.Test.YtkmejkeanmjfbaaDoorLaidEnv
import Derived.Test.YtkmejkeanmjfbaaDoorOpen
import Derived.Test.YtkmejkeanmjfbaaDoorRunsIm
namespace Go.Proofs.YtkmejkeanmjfbaaDoor
open Go.RowKit Go.ChangeShapes Go.WideShapes Go.ChangeAt

set_option maxRecDepth 100000 in
theorem lawReadRuns_any (s : ByteArray) (w : World) (hm : s.size ≤ maxLen) (he : EnvOk w) :
    Calls Tryd.prog 3 #[.string s] w fun e w' => e = .returned (.bool true) ∧ Below w.heap.size w w' := by
  have hm2 : s.size ≤ 9223372036854775807 := hm
  by_cases hs : s.size ≤ 1048576
  · have i1 : ¬ (1048576 : Int) < (s.size : Int) := by omega
    have HS := Lib.hid (spReadRuns_any s w hs)
    have HI := Lib.hid (fun V x => ReadRuns_any s V hs x)
    obtain ⟨R, hR⟩ : ∃ R, R = rrS (byt s) := ⟨_, rfl⟩
    obtain ⟨b, hb⟩ : ∃ b, b = rrB (byt s) := ⟨_, rfl⟩
    rw [← hR, ← hb] at HS HI
    have HE := Lib.hid he
    have e1 := ba_list_t (show R = R from rfl)
    have e2 : (b != b) = false := by simp
    clear hR hb he
    go_enter Tryd.func3, Tryd.ntmps3
    go_wp2_with fail
    refine HS.out.mono ?_
    rintro e w1 ⟨rfl, hb1⟩
    go_wp2_with fail
    refine (HI.out _ (HE.out.bs hb1)).mono ?_
    rintro e w2 ⟨rfl, hb2⟩
    have HB := Lib.hid (bs hb1 hb2)
    clear hb1 hb2
    go_wp2
    go_ret
    exact ⟨rfl, HB.out⟩
  · have i1 : (1048576 : Int) < (s.size : Int) := by omega
    go_enter Tryd.func3, Tryd.ntmps3
    go_wp2
    go_ret
    exact ⟨rfl, b0 _⟩

/-! ### the row -/
theorem met7 (os : Os) (args : Array Value) : laidMetH Tryd.prog laid7 ((World.laidAll Tryd.prog os laid7).forCall (fun _ _ => 0) ⟨#[], args, []⟩).memory := by
  rw [MakeChecks.laidMetH_plain _ _ _ (by kernel_rfl)]
  exact laidMet_laidAll _ (by kernel_rfl) (by kernel_rfl)

set_option maxRecDepth 100000 in
theorem lawReadRuns_lifted (os : Os) (started : os.Started) (H : Type) (enc : TypeId × Value → H) :
    ReturnsInHanded {} Tryd.checked os 3 .any (fun w args => (Rows.fnExactReadRunsSpec.pre enc Tryd.prog Tryd.f3 [] false w args ∧ laidMetH Tryd.prog laid7 w) ∧ sizedMet enc Tryd.prog Tryd.f3 (OpenSpec.ofChange Rows.fnExactReadRunsSpec) false w args)
      (Rows.fnExactReadRunsSpec.post enc Tryd.prog Tryd.f3 false true false false) := by
  refine returns_and_shaped (C := Tryd.checked) (X := fun w _ => laidMetH Tryd.prog laid7 w) (fun _ _ _ hh h => h.of_heap hh) lawOwn started (by kernel_rfl) Tryd.func3
    (ChangeSpec.witness_shaped (enc := enc) (C := Tryd.checked) (os := os) (X := fun w _ => laidMetH Tryd.prog laid7 w) false (World.laidAll Tryd.prog os laid7) #[.string ⟨#[]⟩] 8 (World.laidAll_os _ _ _) (World.shaped_of_ZipB (by kernel_rfl) (by kernel_rfl)) (by kernel_rfl) (by kernel_rfl) (by kernel_rfl) (met7 os _)) ?_
  intro W base args ds gs before hval0 hW hL hsh
  have hval : ∀ (j : Nat) t v, Tryd.f3.params[j]? = some t → args[j]? = some v → Value.okWide Tryd.prog W .any base t v := hval0
  clear hval0
  have hW0 : DataW.Whole enc Tryd.prog Tryd.f3.params.toList Rows.fnExactReadRunsSpec.vars false W args.toList ds gs before := hW
  clear hW
  have hW := hW0
  obtain ⟨p, q, hA, hV, _, _, _⟩ := hW
  rw [Tryd.params3] at hA hval
  obtain ⟨v0, vs0, d0, ds0, p0, q0, hargs, rfl, rfl, h0, hA0⟩ := trodAll_cons hA
  obtain ⟨rfl, rfl, rfl⟩ := trodAll_nil hA0
  have hargs2 : args = #[v0] := by cases args; simp_all
  clear hargs
  subst hargs2
  obtain ⟨s0, rfl, _, _, hm0⟩ := Go.ChangeMaps.open_string Tryd.underlying9 (hval 0 9 v0 rfl rfl) h0
  have henv := env_of hL hsh
  refine (lawReadRuns_any s0 W hm0 henv).mono fun e W' ⟨he, hb⟩ => ⟨_, he, ?_⟩
  exact post_law (f := Tryd.f3) (s := Rows.fnExactReadRunsSpec) hW0 rfl (tb := 4) rfl Tryd.underlying4 rfl lawLaid (by kernel_rfl) hb

theorem lawReadRuns_holds : Rows.FnExactReadRunsSaid :=
  OpenClaim.holds_of_wide 3 Tryd.f3 rfl rfl rfl rfl rfl rfl rfl ⟨rfl, rfl, rfl, rfl, rfl⟩ rfl rfl rfl rfl rfl (by kernel_rfl) Tryd.func3 (by kernel_rfl)
    (of_decide_eq_true (by kernel_rfl)) (by unfold Func.isWrapper; first | (rw [if_pos (by decide +kernel)]; kernel_rfl) | (rw [if_neg (by decide +kernel)]; exact ⟨rfl, rfl⟩))
    (fun os started H enc _ => lawReadRuns_lifted os started H enc)

theorem fnExactReadRuns_holds : Rows.FnExactReadRunsCardSaid :=
  Claim7.holds_tied_plain_at .later [] [.data, .data, .data, .data, .sentinel, .sentinel, .pinned] true (true, "93e1646f8d25c111dd8e2b260417adfc2b19590b57ad0525aee14986c96084dd") true
    lawReadRuns_holds (fun _ h => by cases h) (by kernel_rfl) (fun _ h => by cases h) fnExactReadRuns_row_tie rfl ⟨rfl, rfl⟩ (by kernel_rfl) rfl
    (fun f fn hf hfn => by
      obtain rfl : f = 3 := Option.some.inj ((show Tryd.prog.funcNamed "loop.example/g01012/laws.FnExactReadRuns" = some 3 by kernel_rfl).symm.trans hf) |>.symm
      obtain rfl : fn = Tryd.f3 := (Option.some.inj (Tryd.func3.symm.trans hfn)).symm
      exact ⟨by kernel_rfl, fun j t ht => by
        rw [Tryd.params3] at ht
        have hm : t ∈ [9] := by simpa using Array.mem_of_getElem? ht
        have hall : ([9].all fun u => !Tryd.prog.wantsStandIn u) = true := by kernel_rfl
        exact (show Tryd.prog.wantsStandIn t = false by simpa using List.all_eq_true.1 hall t hm)⟩)
    (by kernel_rfl)
#print axioms fnExactReadRuns_holds
end Go.Proofs.YtkmejkeanmjfbaaDoor
