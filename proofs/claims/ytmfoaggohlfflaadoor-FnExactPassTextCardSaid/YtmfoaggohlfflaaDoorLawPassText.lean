/- The law FnExactPassText answers true at every input, and its argument stays as it was; condition: the listed tables of the library. The card of it. -/
import Derived.Test.YtmfoaggohlfflaaDoorCards
import Derived.Test.YtmfoaggohlfflaaDoorTie
import Derived.Test.YtmfoaggohlfflaaDoorOpen
import Derived.Test.YtmfoaggohlfflaaDoorLawBase
import Derived.Test.YtmfoaggohlfflaaDoorHarnPass
import Derived.Test.YtmfoaggohlfflaaDoorPText2
import Derived.LaidMore
import Derived.SevenTiedAt
import Derived.OpenShut
import Derived.Stop.Joined
namespace Go.Proofs.YtmfoaggohlfflaaDoor
open Go.RowKit Go.ChangeShapes Go.WideShapes Go.ChangeAt

set_option maxRecDepth 100000 in
theorem lawPassText_no (A1 : Option Addr) (c1 : Nat) (ps1 : List (Int × Int)) (w : World) (hn : ¬ ps1.length ≤ 1048576) (hm : ps1.length ≤ maxLen) :
    Calls Tryd.prog 3 #[.slice A1 ps1.length c1] w fun e w' => e = .returned (.bool true) ∧ Below w.heap.size w w' := by
  go_enter Tryd.func3, Tryd.ntmps3
  have T0 : Below w.heap.size w w := b0 w
  go_wp2_with fail
  refine (szPassS_no_L _ _ _ _ _ (by omega) (by omega) hm (by omega)).mono ?_; rintro e w1 ⟨rfl, hb1⟩
  have T1 := bs T0 hb1
  go_wp2
  go_ret
  exact ⟨rfl, T1⟩

set_option maxHeartbeats 4000000 in
theorem lawPassText_yes (A1 : Option Addr) (c1 : Nat) (ps1 : List (Int × Int)) (w : World) (r1 : Rd w w.heap.size 2 A1 ps1.length (prs ps1)) (hl : ps1.length ≤ 1048576) (hi : ∀ z ∈ ps1, I64 z.1 ∧ I64 z.2)
    (htab : Lib.TabIs Tryd.prog w "internal/strconv.uint64pow10" .u64 Lib.pow10Tab) :
    Calls Tryd.prog 3 #[.slice A1 ps1.length c1] w fun e w' => e = .returned (.bool true) ∧ Below w.heap.size w w' := by
  have hc : ∀ p ∈ ps1, inC p.1 := fun p hp => (hi p hp).1
  obtain ⟨T, hT⟩ : ∃ T, T = bs_ (passT ps1) := ⟨_, rfl⟩
  have HS := Lib.hid (fun A c W x => spPassText_any A c ps1 W x hl hc)
  have HP := Lib.hid (fun A c W x y => PassText_any A c ps1 W x hl hc y)
  rw [← hT] at HS HP
  have HC := Lib.hid hc
  have hne : (T.toList != T.toList) = false := by simp
  clear hT hc hi
  have T0 : Below w.heap.size w w := b0 w
  have zt0 := T0.size
  replace r1 := r1.below T0
  go_enter Tryd.func3, Tryd.ntmps3
  go_wp2_with fail
  refine (szPassS_yes_L _ _ _ _ _ (by omega) (by omega)).mono ?_; rintro e w1 ⟨rfl, hb1⟩
  have T1 := bs T0 hb1
  have z1 := hb1.size
  replace r1 := r1.bs zt0 hb1
  have zt1 := T1.size
  clear T0 zt0 hb1
  go_wp2_with fail
  refine (toPassS_any _ _ _ _ (r1.more zt1) (by omega)).mono ?_; rintro e w2 ⟨g2, rfl, ho2, hb2⟩
  have T2 := bs T1 hb2
  have z2 := hb2.size
  replace r1 := r1.bs zt1 hb2
  have zt2 := T2.size
  clear T1 zt1 hb2
  have o_t1 := Ob.of ho2
  clear ho2
  go_wp2_with fail
  refine (HS.out (some ⟨g2, 0, none⟩) _ _ o_t1.rd).mono ?_; rintro e w3 ⟨rfl, hb3⟩
  have T3 := bs T2 hb3
  replace r1 := r1.bs zt2 hb3
  have zt3 := T3.size
  clear T2 zt2 hb3 o_t1
  go_wp2_with fail
  refine (toPassS_any _ _ _ _ (r1.more zt3) (by omega)).mono ?_; rintro e w4 ⟨g4, rfl, ho4, hb4⟩
  have T4 := bs T3 hb4
  replace r1 := r1.bs zt3 hb4
  have zt4 := T4.size
  clear T3 zt3 hb4
  have o_x1 := Ob.of ho4
  clear ho4
  have HTB := Lib.hid (tab_later htab T4)
  go_wp2_with fail
  refine (HP.out (some ⟨g4, 0, none⟩) _ _ o_x1.rd HTB.out).mono ?_; rintro e w5 ⟨rfl, hb5⟩
  have T5 := bs T4 hb5
  replace r1 := r1.bs zt4 hb5
  replace o_x1 := o_x1.bs hb5
  have zt5 := T5.size
  clear T4 zt4 hb5 HTB
  go_wp2_with fail
  refine (toPassS_any _ _ _ _ (r1.more zt5) (by omega)).mono ?_; rintro e w6 ⟨g6, rfl, ho6, hb6⟩
  have T6 := bs T5 hb6
  replace r1 := r1.bs zt5 hb6
  replace o_x1 := o_x1.bs hb6
  have zt6 := T6.size
  clear T5 zt5 hb6
  have o_t3 := Ob.of ho6
  clear ho6
  go_wp2_with fail
  refine (eqPassS_same _ _ _ _ (ps1) _ o_x1.rd o_t3.rd (by omega)).mono ?_; rintro e w7 ⟨rfl, hb7⟩
  have T7 := bs T6 hb7
  clear T6 zt6 hb7 o_t3 o_x1 r1
  go_wp2
  go_ret
  exact ⟨rfl, T7⟩

/-! ### the row -/
def laidP : List (String × DataW Unit) := [("math/bits.deBruijn32tab", Rows.laid_math_bits_deBruijn32tab), ("math/bits.deBruijn64tab", Rows.laid_math_bits_deBruijn64tab), ("internal/strconv.uint64pow10", Rows.laid_internal_strconv_uint64pow10)]
theorem gPow : Tryd.prog.globalNamed "internal/strconv.uint64pow10" = some 0 := by kernel_rfl
theorem tPow : (Tryd.prog.globals[0]?).map (·.type) = some 100 := by kernel_rfl
theorem cPow : Tryd.prog.cellsOf 100 = 20 := by kernel_rfl
theorem cU64 : Tryd.prog.cellsOf 76 = 1 := by kernel_rfl
theorem datPow : (Rows.laid_internal_strconv_uint64pow10 : DataW Unit) = Lib.tabData .u64 Lib.pow10Tab := by rfl
theorem of_laidP {W : World} (h : laidMetH Tryd.prog laidP W) : Lib.TabIs Tryd.prog W "internal/strconv.uint64pow10" .u64 Lib.pow10Tab := by
  rw [MakeChecks.laidMetH_plain _ _ _ (by kernel_rfl)] at h
  obtain ⟨ps, ⟨_, _, _, _, _, _, _, _, _, _, ⟨_, _, _, _, _, _, _, _, _, _, ⟨g2, t2, cs, fuel, p, q, hg2, ht2, hv2, hd2, _, _⟩, _⟩, _⟩, _, _⟩ := h
  obtain rfl := Option.some.inj (gPow.symm.trans hg2)
  obtain rfl := Option.some.inj (tPow.symm.trans ht2)
  rw [datPow] at hd2
  unfold Lib.TabIs
  rw [hv2, ← Lib.cells_of_tab Tryd.underlying100 Tryd.underlying76 cU64 cPow hd2]
theorem door_metP (os : Os) (args : Array Value) : laidMetH Tryd.prog laidP ((World.doorLaid Tryd.prog 400 os).forCall (fun _ _ => 0) ⟨#[], args, []⟩).memory :=
  laidMetH_of_parts3 (fuel := 8) (laidMet_of_run' 8 (by kernel_rfl) (by kernel_rfl)) (by kernel_rfl) (by kernel_rfl)

set_option maxRecDepth 100000 in
theorem lawPassText_lifted (os : Os) (started : os.Started) (H : Type) (enc : TypeId × Value → H) :
    ReturnsInHanded {} Tryd.checked os 3 .any (fun w args => (Rows.fnExactPassTextSpec.pre enc Tryd.prog Tryd.f3 [] false w args ∧ laidMetH Tryd.prog laidP w) ∧ sizedMet enc Tryd.prog Tryd.f3 (OpenSpec.ofChange Rows.fnExactPassTextSpec) false w args)
      (Rows.fnExactPassTextSpec.post enc Tryd.prog Tryd.f3 false true false false) := by
  refine returnsInHanded_of_change_and (C := Tryd.checked) (X := fun w _ => laidMetH Tryd.prog laidP w) (fun _ _ _ hh h => h.of_heap hh) lawOwn started (by kernel_rfl) Tryd.func3
    (ChangeSpec.witness_shaped (enc := enc) (C := Tryd.checked) (os := os) (X := fun w _ => laidMetH Tryd.prog laidP w) false (World.doorLaid Tryd.prog 400 os) #[.slice none 0 0] 8 rfl (World.shaped_of_RefB (by kernel_rfl) (by kernel_rfl)) (by kernel_rfl) (by kernel_rfl) (by kernel_rfl) (door_metP os _)) ?_
  intro W base args ds gs before hval0 hW _ _ hL _
  have hval : ∀ (j : Nat) t v, Tryd.f3.params[j]? = some t → args[j]? = some v → Value.okWide Tryd.prog W .any base t v := hval0
  clear hval0
  have hW0 : DataW.Whole enc Tryd.prog Tryd.f3.params.toList Rows.fnExactPassTextSpec.vars false W args.toList ds gs before := hW
  clear hW
  have hW := hW0
  obtain ⟨p, q, hA, hV, _, _, _⟩ := hW
  rw [Tryd.params3] at hA hval
  obtain ⟨v0, vs0, d0, ds0, p0, q0, hargs, rfl, rfl, h0, hA0⟩ := trodAll_cons hA
  obtain ⟨rfl, rfl, rfl⟩ := trodAll_nil hA0
  have hargs2 : args = #[v0] := by cases args; simp_all
  clear hargs
  subst hargs2
  obtain ⟨A1, c1, ps1, rfl, hc1, hm1, r1, hz1⟩ := in_pairs Tryd.underlying22 Tryd.underlying36 (by kernel_rfl) (by kernel_rfl) rfl rfl Tryd.underlying2 Tryd.underlying2 (hval 0 22 v0 rfl rfl) h0
  have htab := of_laidP hL
  have hcall : Calls Tryd.prog 3 #[.slice A1 ps1.length c1] W fun e W' => e = .returned (.bool true) ∧ Below W.heap.size W W' := by
    by_cases s0 : ps1.length ≤ 1048576
    case neg => exact lawPassText_no A1 c1 ps1 W s0 (by omega)
    exact lawPassText_yes A1 c1 ps1 W r1 s0 hz1 htab
  refine hcall.mono fun e W' ⟨he, hb⟩ => ⟨_, he, ?_⟩
  exact post_law (f := Tryd.f3) (s := Rows.fnExactPassTextSpec) hW0 rfl (tb := 4) rfl Tryd.underlying4 rfl lawLaid (by kernel_rfl) hb

theorem lawPassText_holds : Rows.FnExactPassTextSaid :=
  OpenClaim.holds_of_wide 3 Tryd.f3 rfl rfl rfl rfl rfl rfl rfl ⟨rfl, rfl, rfl, rfl, rfl⟩ rfl rfl rfl rfl rfl (by kernel_rfl) Tryd.func3 (by kernel_rfl)
    (of_decide_eq_true (by kernel_rfl)) (by unfold Func.isWrapper; first | (rw [if_pos (by decide +kernel)]; kernel_rfl) | (rw [if_neg (by decide +kernel)]; exact ⟨rfl, rfl⟩))
    (fun os started H enc _ => lawPassText_lifted os started H enc)

theorem fnExactPassText_holds : Rows.FnExactPassTextCardSaid :=
  Claim7.holds_tied_plain_at .later [] [.data, .data, .data] true (true, "b4916ef76ec5d513bc7bd9e29928054f71db5a2acbf8746de12b79bf068c440a") true
    lawPassText_holds (fun _ h => by cases h) (by kernel_rfl) (fun _ h => by cases h) fnExactPassText_row_tie rfl ⟨rfl, rfl⟩ (by kernel_rfl) rfl
    (fun f fn hf hfn => by
      obtain rfl : f = 3 := Option.some.inj ((show Tryd.prog.funcNamed "loop.example/g01012/laws.FnExactPassText" = some 3 by kernel_rfl).symm.trans hf) |>.symm
      obtain rfl : fn = Tryd.f3 := (Option.some.inj (Tryd.func3.symm.trans hfn)).symm
      exact ⟨by kernel_rfl, fun j t ht => by
        rw [Tryd.params3] at ht
        have hm : t ∈ [22] := by simpa using Array.mem_of_getElem? ht
        have hall : ([22].all fun u => !Tryd.prog.wantsStandIn u) = true := by kernel_rfl
        exact (show Tryd.prog.wantsStandIn t = false by simpa using List.all_eq_true.1 hall t hm)⟩)
    (by kernel_rfl)
#print axioms fnExactPassText_holds
end Go.Proofs.YtmfoaggohlfflaaDoor
