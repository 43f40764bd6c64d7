/- The law FnExactGatherCards answers true at every input, and its arguments stay as they were; conditions: none. -/
import Derived.Test.YtkmclaijhkaimaaRows
import Derived.Test.YtkmclaijhkaimaaOpen
import Derived.Test.YtkmclaijhkaimaaLawBase
import Derived.Deep.RegionHeld3
import Derived.Deep.DeepCutAuto
import Derived.Test.YtkmclaijhkaimaaGatherCards
import Derived.Test.YtkmclaijhkaimaaHarnDecks
import Derived.Test.YtkmclaijhkaimaaOpenDecks
namespace Go.Proofs.Ytkmclaijhkaimaa
open Go.RowKit Go.ChangeShapes Go.WideShapes Go.ChangeAt

set_option maxRecDepth 100000 in
theorem lawGatherCards_no0 (D0 : Option Addr) (c0 : Nat) (ds0 : List Dk) (n1 : Int) (w : World) (r0 : RdDD w w.heap.size D0 ds0) (_hi1 : I64 n1) (hn : ¬ (ds0.length + dtot ds0) ≤ 1048576) (hm : ds0.length ≤ maxLen ∧ ∀ d ∈ ds0, d.hs.length ≤ maxLen ∧ ∀ h ∈ d.hs, h.xs.length ≤ maxLen) :
    Calls Try.prog 4 #[.slice D0 ds0.length c0, .int .i64 n1] w fun e w' => e = .returned (.bool true) ∧ Below w.heap.size w w' := by
  go_enter Try.func4, Try.ntmps4
  have T0 : Below w.heap.size w w := b0 w
  go_wp2_with fail
  refine (szCardSS_no _ _ _ _ _ ((r0.below T0).more T0.size) (by omega) (by omega) hm (by omega)).mono ?_; rintro e w1 ⟨rfl, hb1⟩
  have T1 := bs T0 hb1
  go_wp2
  go_ret
  exact ⟨rfl, T1⟩

set_option maxRecDepth 100000 in
set_option maxHeartbeats 8000000 in
theorem lawGatherCards_yes (D0 : Option Addr) (c0 : Nat) (ds0 : List Dk) (n1 : Int) (w : World) (r0 : RdDD w w.heap.size D0 ds0) (hi1 : I64 n1) (hl : (ds0.length + dtot ds0) ≤ 1048576) :
    Calls Try.prog 4 #[.slice D0 ds0.length c0, .int .i64 n1] w fun e w' => e = .returned (.bool true) ∧ Below w.heap.size w w' := by
  go_enter Try.func4, Try.ntmps4
  have T0 : Below w.heap.size w w := b0 w
  have zt0 := T0.size
  replace r0 := r0.below T0
  go_wp2_with fail
  refine (szCardSS_yes _ _ _ _ _ (r0.more zt0) (by omega) (by omega)).mono ?_; rintro e w1 ⟨rfl, hb1⟩
  have T1 := bs T0 hb1
  have z1 := hb1.size
  replace r0 := r0.bs zt0 hb1
  have zt1 := T1.size
  clear T0 zt0 hb1
  go_wp2_with fail
  refine (toCardSS_any _ _ _ _ (r0.more zt1) (by omega)).mono ?_; rintro e w2 ⟨g2, gs2, rfl, hcs2, ho2, hb2⟩
  have T2 := bs T1 hb2
  have z2 := hb2.size
  replace r0 := r0.bs zt1 hb2
  have zt2 := T2.size
  clear T1 zt1 hb2
  have o_t1 := ho2
  clear ho2
  have bd_t1 : gs2.length + dtot gs2 ≤ 1048576 := by have h1 := dtot_decks hcs2; have h2 := (decks_same hcs2).1; omega
  go_wp2_with fail
  refine (spGatherCards_any (some ⟨g2, 0, none⟩) _ gs2 (decks ds0) n1 _ o_t1.rd hcs2 bd_t1 ).mono ?_; rintro e w3 ⟨Aw0, cw0, Gw0, rfl, hcw0, how0, hb3⟩
  have T3 := bs T2 hb3
  have z3 := hb3.size
  replace r0 := r0.bs zt2 hb3
  replace o_t1 := o_t1.bs hb3
  have zt3 := T3.size
  clear T2 zt2 hb3
  have o_w0 := how0
  clear how0
  have bd_w0 : Gw0.length + tot Gw0 ≤ 1048576 := by have := gcR_bnd _ _ hcw0; omega
  clear o_t1
  go_wp2_with fail
  refine (toCardSS_any _ _ _ _ (r0.more zt3) (by omega)).mono ?_; rintro e w4 ⟨g4, gs4, rfl, hcs4, ho4, hb4⟩
  have T4 := bs T3 hb4
  have z4 := hb4.size
  replace r0 := r0.bs zt3 hb4
  replace o_w0 := o_w0.bs hb4
  have zt4 := T4.size
  clear T3 zt3 hb4
  have o_t2 := ho4
  clear ho4
  have bd_t2 : gs4.length + dtot gs4 ≤ 1048576 := by have h1 := dtot_decks hcs4; have h2 := (decks_same hcs4).1; omega
  have o_x0 := o_t2
  clear o_t2
  go_wp2_with fail
  refine (GatherCards_any (some ⟨g4, 0, none⟩) _ gs4 (decks ds0) n1 _ o_x0.rd hcs4 bd_t2 ).mono ?_; rintro e w5 ⟨Ag0, cg0, Gg0, rfl, hcg0, hog0, hb5⟩
  have T5 := bs T4 hb5
  have z5 := hb5.size
  replace r0 := r0.bs zt4 hb5
  replace o_w0 := o_w0.bs hb5
  replace o_x0 := o_x0.bs hb5
  have zt5 := T5.size
  clear T4 zt4 hb5
  have o_g0 := hog0
  clear hog0
  have bd_g0 : Gg0.length + tot Gg0 ≤ 1048576 := by have := gcR_bnd _ _ hcg0; omega
  go_wp2_with fail
  refine (eqCardS_same _ _ _ _ Gg0 Gw0 _ o_g0.rd o_w0.rd (hcg0.trans hcw0.symm) bd_g0).mono ?_; rintro e w6 ⟨rfl, hb6⟩
  have T6 := bs T5 hb6
  have z6 := hb6.size
  replace r0 := r0.bs zt5 hb6
  replace o_w0 := o_w0.bs hb6
  replace o_x0 := o_x0.bs hb6
  replace o_g0 := o_g0.bs hb6
  have zt6 := T6.size
  clear T5 zt5 hb6
  go_wp2_with fail
  refine (toCardSS_any _ _ _ _ (r0.more zt6) (by omega)).mono ?_; rintro e w7 ⟨g7, gs7, rfl, hcs7, ho7, hb7⟩
  have T7 := bs T6 hb7
  have z7 := hb7.size
  replace r0 := r0.bs zt6 hb7
  replace o_w0 := o_w0.bs hb7
  replace o_x0 := o_x0.bs hb7
  replace o_g0 := o_g0.bs hb7
  have zt7 := T7.size
  clear T6 zt6 hb7
  have o_t3 := ho7
  clear ho7
  have bd_t3 : gs7.length + dtot gs7 ≤ 1048576 := by have h1 := dtot_decks hcs7; have h2 := (decks_same hcs7).1; omega
  go_wp2_with fail
  refine (eqCardSS_same _ _ _ _ gs4 gs7 _ o_x0.rd o_t3.rd (hcs4.trans hcs7.symm) bd_t2).mono ?_; rintro e w8 ⟨rfl, hb8⟩
  have T8 := bs T7 hb8
  have z8 := hb8.size
  replace r0 := r0.bs zt7 hb8
  replace o_w0 := o_w0.bs hb8
  replace o_x0 := o_x0.bs hb8
  replace o_g0 := o_g0.bs hb8
  replace o_t3 := o_t3.bs hb8
  have zt8 := T8.size
  clear T7 zt7 hb8
  clear o_t3
  go_wp2_with fail
  refine (markCardSS_any _ _ _ _ _ _ _ o_x0 bd_t2 (by omega) (by omega)).mono ?_; rintro e w9 ⟨rfl, ho9, hg9⟩
  have cg9 := hg9
  have z9 := cg9.size
  have T9 := cg9.below T8 (by omega) zt8
  replace r0 := cg9.rdDD r0 (by omega) zt8
  replace o_w0 := o_w0.chg cg9 (by omega)
  replace o_g0 := o_g0.chg cg9 (by omega)
  replace o_x0 := ho9
  clear cg9 hg9 ho9
  have zt9 := T9.size
  clear T8 zt8
  go_wp2_with fail
  refine (eqCardS_same _ _ _ _ Gg0 Gw0 _ o_g0.rd o_w0.rd (hcg0.trans hcw0.symm) bd_g0).mono ?_; rintro e w10 ⟨rfl, hb10⟩
  have T10 := bs T9 hb10
  have z10 := hb10.size
  replace r0 := r0.bs zt9 hb10
  replace o_w0 := o_w0.bs hb10
  replace o_x0 := o_x0.bs hb10
  replace o_g0 := o_g0.bs hb10
  have zt10 := T10.size
  clear T9 zt9 hb10
  go_wp2_with fail
  refine (markCardS_any _ _ _ _ _ _ _ o_g0 bd_g0 (by omega) (by omega)).mono ?_; rintro e w11 ⟨rfl, ho11, hg11⟩
  have cg11 := hg11
  have z11 := cg11.size
  have T11 := cg11.below T10 (by omega) zt10
  replace r0 := cg11.rdDD r0 (by omega) zt10
  replace o_w0 := o_w0.chg cg11 (by omega)
  replace o_x0 := o_x0.chg cg11 (by omega)
  replace o_g0 := ho11
  clear cg11 hg11 ho11
  have zt11 := T11.size
  clear T10 zt10
  go_wp2_with fail
  refine (heldCardS_any _ _ Gg0 _ _ o_g0.rd bd_g0 (by omega) (by omega)).mono ?_; rintro e w12 ⟨rfl, hb12⟩
  have T12 := bs T11 hb12
  have z12 := hb12.size
  replace r0 := r0.bs zt11 hb12
  replace o_w0 := o_w0.bs hb12
  replace o_x0 := o_x0.bs hb12
  replace o_g0 := o_g0.bs hb12
  have zt12 := T12.size
  clear T11 zt11 hb12
  go_wp2_with fail
  refine (toCardSS_any _ _ _ _ (r0.more zt12) (by omega)).mono ?_; rintro e w13 ⟨g13, gs13, rfl, hcs13, ho13, hb13⟩
  have T13 := bs T12 hb13
  have z13 := hb13.size
  replace r0 := r0.bs zt12 hb13
  replace o_w0 := o_w0.bs hb13
  replace o_x0 := o_x0.bs hb13
  replace o_g0 := o_g0.bs hb13
  have zt13 := T13.size
  clear T12 zt12 hb13
  have o_t4 := ho13
  clear ho13
  have bd_t4 : gs13.length + dtot gs13 ≤ 1048576 := by have h1 := dtot_decks hcs13; have h2 := (decks_same hcs13).1; omega
  go_wp2_with fail
  refine (GatherCards_any (some ⟨g13, 0, none⟩) _ gs13 (decks ds0) n1 _ o_t4.rd hcs13 bd_t4 ).mono ?_; rintro e w14 ⟨Ah0, ch0, Gh0, rfl, hch0, hoh0, hb14⟩
  have T14 := bs T13 hb14
  have z14 := hb14.size
  replace r0 := r0.bs zt13 hb14
  replace o_w0 := o_w0.bs hb14
  replace o_x0 := o_x0.bs hb14
  replace o_g0 := o_g0.bs hb14
  replace o_t4 := o_t4.bs hb14
  have zt14 := T14.size
  clear T13 zt13 hb14
  have o_h0 := hoh0
  clear hoh0
  have bd_h0 : Gh0.length + tot Gh0 ≤ 1048576 := by have := gcR_bnd _ _ hch0; omega
  clear o_t4
  go_wp2_with fail
  refine (eqCardS_same _ _ _ _ Gh0 Gw0 _ o_h0.rd o_w0.rd (hch0.trans hcw0.symm) bd_h0).mono ?_; rintro e w15 ⟨rfl, hb15⟩
  have T15 := bs T14 hb15
  have z15 := hb15.size
  replace r0 := r0.bs zt14 hb15
  replace o_w0 := o_w0.bs hb15
  replace o_x0 := o_x0.bs hb15
  replace o_g0 := o_g0.bs hb15
  replace o_h0 := o_h0.bs hb15
  have zt15 := T15.size
  clear T14 zt14 hb15
  go_wp2_with fail
  refine (heldCardS_any _ _ Gg0 _ _ o_g0.rd bd_g0 (by omega) (by omega)).mono ?_; rintro e w16 ⟨rfl, hb16⟩
  have T16 := bs T15 hb16
  have z16 := hb16.size
  replace r0 := r0.bs zt15 hb16
  replace o_w0 := o_w0.bs hb16
  replace o_x0 := o_x0.bs hb16
  replace o_g0 := o_g0.bs hb16
  replace o_h0 := o_h0.bs hb16
  have zt16 := T16.size
  clear T15 zt15 hb16
  go_wp2
  go_ret
  exact ⟨rfl, T16⟩

set_option maxRecDepth 100000 in
theorem lawGatherCards_lifted (os : Os) (started : os.Started) (H : Type) (enc : TypeId × Value → H) :
    ReturnsInHanded {} Try.checked os 4 .any (Rows.fnExactGatherCardsSpec.pre6 enc Try.prog Try.f4 Rows.fnExactGatherCardsRow.domain false) (Rows.fnExactGatherCardsSpec.post enc Try.prog Try.f4 false true false false) := by
  refine returnsInHanded_of_change (C := Try.checked) lawOwn started (by kernel_rfl) Try.func4
    (ChangeSpec.witness6 (enc := enc) (C := Try.checked) false ⟨#[], #[.slice none 0 0, .int .i64 0], []⟩ 8 (by kernel_rfl) (by kernel_rfl) (by kernel_rfl) (by kernel_rfl)) ?_
  intro W base args ds gs before hval0 hW _ _
  have hval : ∀ (j : Nat) t v, Try.f4.params[j]? = some t → args[j]? = some v → Value.okWide Try.prog W .any base t v := hval0
  clear hval0
  have hW0 : DataW.Whole enc Try.prog Try.f4.params.toList Rows.fnExactGatherCardsSpec.vars false W args.toList ds gs before := hW
  clear hW
  have hW := hW0
  obtain ⟨p, q, hA, hV, _, _, _⟩ := hW
  rw [Try.params4] at hA hval
  obtain ⟨v0, vs0, d0, ds0, p0, q0, hargs, rfl, rfl, h0, hA0⟩ := trodAll_cons hA
  obtain ⟨v1, vs1, d1, ds1, p1, q1, rfl, rfl, rfl, h1, hA1⟩ := trodAll_cons hA0
  obtain ⟨rfl, rfl, rfl⟩ := trodAll_nil hA1
  have hargs2 : args = #[v0, v1] := by cases args; simp_all
  clear hargs
  subst hargs2
  obtain ⟨D0, c0, ds0, rfl, hc0, hm0, r0, hz0⟩ := in_decks Try.underlying38 (by kernel_rfl) Try.underlying22 Try.underlying46 (by kernel_rfl) (by kernel_rfl) rfl Try.underlying44 Try.underlying2 (by kernel_rfl) (hval 0 38 v0 rfl rfl) h0
  obtain ⟨n1, rfl, hi1⟩ := in_int Try.underlying2 (hval 1 2 v1 rfl rfl) h1
  have hcall : Calls Try.prog 4 #[.slice D0 ds0.length c0, .int .i64 n1] W fun e W' => e = .returned (.bool true) ∧ Below W.heap.size W W' := by
    by_cases s0 : (ds0.length + dtot ds0) ≤ 1048576
    case neg => exact lawGatherCards_no0 D0 c0 ds0 n1 W r0 hi1  s0 ⟨by omega, fun d hd => ⟨Nat.le_trans (r0.cap d hd) (hz0 d hd).1, fun h hh => Nat.le_trans ((r0.deck d hd).cap h hh) ((hz0 d hd).2 h hh).1⟩⟩
    exact lawGatherCards_yes D0 c0 ds0 n1 W r0 hi1 s0
  refine hcall.mono fun e W' ⟨he, hb⟩ => ⟨_, he, ?_⟩
  exact post_law (f := Try.f4) (s := Rows.fnExactGatherCardsSpec) hW0 rfl (tb := 4) rfl Try.underlying4 rfl lawLaid (by kernel_rfl) hb

theorem fnExactGatherCards_holds : Rows.FnExactGatherCardsSaid :=
  OpenClaim.holds_of_wide 4 Try.f4 rfl rfl rfl rfl rfl rfl rfl ⟨rfl, rfl, rfl, rfl, rfl⟩ rfl rfl rfl rfl rfl (by kernel_rfl) Try.func4 (by kernel_rfl)
    (of_decide_eq_true (by kernel_rfl)) (by unfold Func.isWrapper; first | (rw [if_pos (by decide +kernel)]; kernel_rfl) | (rw [if_neg (by decide +kernel)]; exact ⟨rfl, rfl⟩))
    (fun os started H enc _ => lawGatherCards_lifted os started H enc)
#print axioms fnExactGatherCards_holds
end Go.Proofs.Ytkmclaijhkaimaa
