/- The law FnExactNearestCard answers true at every input, and its arguments stay as they were; conditions: none. -/
import Derived.Test.YtlnpkijeondidaaRows
import Derived.Test.YtlnpkijeondidaaOpen
import Derived.Test.YtlnpkijeondidaaLawBase
import Derived.Deep.RegionHeld3
import Derived.Test.YtlnpkijeondidaaNearest
import Derived.Test.YtlnpkijeondidaaHarnDeck
import Derived.Test.YtlnpkijeondidaaOpenDeck
namespace Go.Proofs.Ytlnpkijeondidaa
open Go.RowKit Go.ChangeShapes Go.WideShapes Go.ChangeAt

set_option maxRecDepth 100000 in
theorem lawNearestCard_no0 (D0 : Option Addr) (c0 : Nat) (hs0 : List Hd) (A1 : Option Addr) (c1 : Nat) (xs1 : List Int) (w : World) (r0 : RdD w w.heap.size D0 hs0) (r1 : Rd w w.heap.size 1 A1 xs1.length (ints xs1)) (hn : ¬ (hs0.length + tot hs0) ≤ 1048576) (hm : hs0.length ≤ maxLen ∧ ∀ h ∈ hs0, h.xs.length ≤ maxLen) :
    Calls Try.prog 8 #[.slice D0 hs0.length c0, .agg #[.slice A1 xs1.length c1]] w fun e w' => e = .returned (.bool true) ∧ Below w.heap.size w w' := by
  go_enter Try.func8, Try.ntmps8
  have T0 : Below w.heap.size w (w.alloc (.cells #[.slice A1 xs1.length c1] 24)) := ba (b0 w) _
  have kb0_0 : World.cell? (w.alloc (.cells #[.slice A1 xs1.length c1] 24)) ⟨w.heap.size, 0, none⟩ = some (.slice A1 xs1.length c1) := by simp
  go_wp2_with fail
  refine (szCardS_no _ _ _ _ _ ((r0.below T0).more T0.size) (by omega) (by omega) hm (by omega)).mono ?_; rintro e w1 ⟨rfl, hb1⟩
  have T1 := bs T0 hb1
  go_wp2
  go_ret
  exact ⟨rfl, T1⟩

set_option maxRecDepth 100000 in
theorem lawNearestCard_no1 (D0 : Option Addr) (c0 : Nat) (hs0 : List Hd) (A1 : Option Addr) (c1 : Nat) (xs1 : List Int) (w : World) (r0 : RdD w w.heap.size D0 hs0) (r1 : Rd w w.heap.size 1 A1 xs1.length (ints xs1)) (hl : (hs0.length + tot hs0) ≤ 1048576) (hn : ¬ (hs0.length + tot hs0) + xs1.length ≤ 1048576) (hm : xs1.length ≤ maxLen) :
    Calls Try.prog 8 #[.slice D0 hs0.length c0, .agg #[.slice A1 xs1.length c1]] w fun e w' => e = .returned (.bool true) ∧ Below w.heap.size w w' := by
  go_enter Try.func8, Try.ntmps8
  have T0 : Below w.heap.size w (w.alloc (.cells #[.slice A1 xs1.length c1] 24)) := ba (b0 w) _
  have kb0_0 : World.cell? (w.alloc (.cells #[.slice A1 xs1.length c1] 24)) ⟨w.heap.size, 0, none⟩ = some (.slice A1 xs1.length c1) := by simp
  go_wp2_with fail
  refine (szCardS_yes _ _ _ _ _ ((r0.below T0).more T0.size) (by omega) (by omega)).mono ?_; rintro e w1 ⟨rfl, hb1⟩
  have T1 := bs T0 hb1
  replace kb0_0 := cell_later hb1 kb0_0
  go_wp2_with fail
  refine (szCard_no _ _ _ _ _ (by omega) (by omega) hm (by omega)).mono ?_; rintro e w2 ⟨rfl, hb2⟩
  have T2 := bs T1 hb2
  go_wp2
  go_ret
  exact ⟨rfl, T2⟩

set_option maxHeartbeats 4000000 in
theorem lawNearestCard_yes (D0 : Option Addr) (c0 : Nat) (hs0 : List Hd) (A1 : Option Addr) (c1 : Nat) (xs1 : List Int) (w : World) (r0 : RdD w w.heap.size D0 hs0) (r1 : Rd w w.heap.size 1 A1 xs1.length (ints xs1)) (hl : (hs0.length + tot hs0) + xs1.length ≤ 1048576) :
    Calls Try.prog 8 #[.slice D0 hs0.length c0, .agg #[.slice A1 xs1.length c1]] w fun e w' => e = .returned (.bool true) ∧ Below w.heap.size w w' := by
  go_enter Try.func8, Try.ntmps8
  have T0 : Below w.heap.size w (w.alloc (.cells #[.slice A1 xs1.length c1] 24)) := ba (b0 w) _
  have zt0 := T0.size
  have kb0_0 : World.cell? (w.alloc (.cells #[.slice A1 xs1.length c1] 24)) ⟨w.heap.size, 0, none⟩ = some (.slice A1 xs1.length c1) := by simp
  replace r0 := r0.below T0
  replace r1 := r1.below T0
  go_wp2_with fail
  refine (szCardS_yes _ _ _ _ _ (r0.more zt0) (by omega) (by omega)).mono ?_; rintro e w1 ⟨rfl, hb1⟩
  have T1 := bs T0 hb1
  have z1 := hb1.size
  simp only [World.size_alloc] at z1
  replace r0 := r0.bs zt0 hb1
  replace r1 := r1.bs zt0 hb1
  replace kb0_0 := cell_later hb1 kb0_0
  have zt1 := T1.size
  clear T0 zt0 hb1
  go_wp2_with fail
  refine (szCard_yes _ _ _ _ _ (by omega) (by omega)).mono ?_; rintro e w2 ⟨rfl, hb2⟩
  have T2 := bs T1 hb2
  have z2 := hb2.size
  replace r0 := r0.bs zt1 hb2
  replace r1 := r1.bs zt1 hb2
  replace kb0_0 := cell_later hb2 kb0_0
  have zt2 := T2.size
  clear T1 zt1 hb2
  go_wp2_with fail
  go_region_held3 (fun w' => w'.cell? ⟨w.heap.size, 0, none⟩ = some (.slice A1 xs1.length c1)) (first | exact kb0_0 | go_keep)
    (first
      | (go_at_call 40; refine (toCardS_any _ _ _ _ ?_ ?_).mono ?_; (first | exact (r0.more zt2) | exact ((r0.more zt2)).drew); (omega); rintro e w3 ⟨g3, gs3, rfl, hcs3, ho3, hb3⟩; have hb3 : Below w2.heap.size w2 w3 := ⟨hb3.os, hb3.tape, hb3.output, hb3.size, hb3.block⟩; have ho3 : ObD w3 w2.heap.size _ _ _ _ _ _ := ho3; have T3 := bs T2 hb3; have z3 := hb3.size; replace r0 := r0.bs zt2 hb3; replace r1 := r1.bs zt2 hb3; replace kb0_0 := cell_later hb3 kb0_0; have zt3 := T3.size; clear T2 zt2 hb3; have o_t1 := ho3; clear ho3; have bd_t1 : gs3.length + tot gs3 ≤ 1048576 := (by have h1 := tot_cards hcs3; have h2 := (cards_same hcs3).1; omega))
      | (go_at_call 17; refine (toCard_any _ _ _ _ ?_ ?_).mono ?_; (first | exact (r1.more zt3) | exact ((r1.more zt3)).drew); (omega); rintro e w4 ⟨g4, rfl, ho4, hb4⟩; have hb4 : Below w3.heap.size w3 w4 := ⟨hb4.os, hb4.tape, hb4.output, hb4.size, hb4.block⟩; have ho4 : World.ownsRow w4 w3.heap.size _ _ _ _ _ := ho4; have T4 := bs T3 hb4; have z4 := hb4.size; replace r0 := r0.bs zt3 hb4; replace r1 := r1.bs zt3 hb4; replace o_t1 := o_t1.bs hb4; replace kb0_0 := cell_later hb4 kb0_0; have zt4 := T4.size; clear T3 zt3 hb4; have o_t2 := Ob.of ho4; clear ho4)
      | (go_at_call 39; refine (spNearestCard_any (some ⟨g3, 0, none⟩) _ gs3 (cards hs0) (some ⟨g4, 0, none⟩) _ (xs1) _ ?_ hcs3 bd_t1 ?_ ?_ ?_ ?_).mono ?_; (first | exact o_t1.rd | exact (o_t1.rd).drew); (exact o_t1.cap.1); (first | exact o_t2.rd | exact (o_t2.rd).drew); (omega); (omega); rintro e w5 ⟨rfl, hb5⟩; have hb5 : Below w4.heap.size w4 w5 := ⟨hb5.os, hb5.tape, hb5.output, hb5.size, hb5.block⟩; have T5 := bs T4 hb5; have z5 := hb5.size; replace r0 := r0.bs zt4 hb5; replace r1 := r1.bs zt4 hb5; replace o_t1 := o_t1.bs hb5; replace o_t2 := o_t2.bs hb5; replace kb0_0 := cell_later hb5 kb0_0; have zt5 := T5.size; clear T4 zt4 hb5)
    )
  clear o_t1
  clear o_t2
  go_wp2_with fail
  refine (toCardS_any _ _ _ _ (r0.more zt5) (by omega)).mono ?_; rintro e w6 ⟨g6, gs6, rfl, hcs6, ho6, hb6⟩
  have T6 := bs T5 hb6
  have z6 := hb6.size
  replace r0 := r0.bs zt5 hb6
  replace r1 := r1.bs zt5 hb6
  replace kb0_0 := cell_later hb6 kb0_0
  have zt6 := T6.size
  clear T5 zt5 hb6
  have o_t3 := ho6
  clear ho6
  have bd_t3 : gs6.length + tot gs6 ≤ 1048576 := by have h1 := tot_cards hcs6; have h2 := (cards_same hcs6).1; omega
  have o_x0 := o_t3
  clear o_t3
  go_wp2_with fail
  refine (toCard_any _ _ _ _ (r1.more zt6) (by omega)).mono ?_; rintro e w7 ⟨g7, rfl, ho7, hb7⟩
  have T7 := bs T6 hb7
  have z7 := hb7.size
  replace r0 := r0.bs zt6 hb7
  replace r1 := r1.bs zt6 hb7
  replace o_x0 := o_x0.bs hb7
  replace kb0_0 := cell_later hb7 kb0_0
  have zt7 := T7.size
  clear T6 zt6 hb7
  have o_t4 := Ob.of ho7
  clear ho7
  have o_x1 := o_t4
  clear o_t4
  replace r0 := r0.alloc zt7 (.cells #[.slice (some ⟨g7, 0, none⟩) xs1.length xs1.length] 28)
  replace r1 := r1.alloc zt7 (.cells #[.slice (some ⟨g7, 0, none⟩) xs1.length xs1.length] 28)
  replace T7 := ba T7 (.cells #[.slice (some ⟨g7, 0, none⟩) xs1.length xs1.length] 28)
  replace o_x0 := o_x0.alloc (.cells #[.slice (some ⟨g7, 0, none⟩) xs1.length xs1.length] 28)
  replace o_x1 := o_x1.alloc (.cells #[.slice (some ⟨g7, 0, none⟩) xs1.length xs1.length] 28)
  replace kb0_0 := cell_alloc kb0_0 (.cells #[.slice (some ⟨g7, 0, none⟩) xs1.length xs1.length] 28)
  have kx_x1 : World.cell? (w7.alloc (.cells #[.slice (some ⟨g7, 0, none⟩) xs1.length xs1.length] 28)) ⟨w7.heap.size, 0, none⟩ = some (.slice (some ⟨g7, 0, none⟩) xs1.length xs1.length) := by simp
  replace zt7 := T7.size
  have zb_x1 : (World.heap (w7.alloc (.cells #[.slice (some ⟨g7, 0, none⟩) xs1.length xs1.length] 28))).size = w7.heap.size + 1 := by simp
  go_wp2_with fail
  refine (NearestCard_any (some ⟨g6, 0, none⟩) _ gs6 (cards hs0) (some ⟨g7, 0, none⟩) _ (xs1) _ o_x0.rd hcs6 bd_t3 o_x0.cap.1 o_x1.rd (by omega) (by omega) ).mono ?_; rintro e w8 ⟨rfl, hb8⟩
  have T8 := bs T7 hb8
  have z8 := hb8.size
  simp only [World.size_alloc] at z8
  replace r0 := r0.bs zt7 hb8
  replace r1 := r1.bs zt7 hb8
  replace o_x0 := o_x0.bs hb8
  replace o_x1 := o_x1.bs hb8
  replace kb0_0 := cell_later hb8 kb0_0
  replace kx_x1 := cell_later hb8 kx_x1
  have zt8 := T8.size
  clear T7 zt7 hb8
  go_wp2_with fail
  refine (toCardS_any _ _ _ _ (r0.more zt8) (by omega)).mono ?_; rintro e w9 ⟨g9, gs9, rfl, hcs9, ho9, hb9⟩
  have T9 := bs T8 hb9
  have z9 := hb9.size
  replace r0 := r0.bs zt8 hb9
  replace r1 := r1.bs zt8 hb9
  replace o_x0 := o_x0.bs hb9
  replace o_x1 := o_x1.bs hb9
  replace kb0_0 := cell_later hb9 kb0_0
  replace kx_x1 := cell_later hb9 kx_x1
  have zt9 := T9.size
  clear T8 zt8 hb9
  have o_t5 := ho9
  clear ho9
  have bd_t5 : gs9.length + tot gs9 ≤ 1048576 := by have h1 := tot_cards hcs9; have h2 := (cards_same hcs9).1; omega
  go_wp2_with fail
  refine (eqCardS_same _ _ _ _ gs6 gs9 _ o_x0.rd o_t5.rd (hcs6.trans hcs9.symm) bd_t3).mono ?_; rintro e w10 ⟨rfl, hb10⟩
  have T10 := bs T9 hb10
  have z10 := hb10.size
  replace r0 := r0.bs zt9 hb10
  replace r1 := r1.bs zt9 hb10
  replace o_x0 := o_x0.bs hb10
  replace o_x1 := o_x1.bs hb10
  replace o_t5 := o_t5.bs hb10
  replace kb0_0 := cell_later hb10 kb0_0
  replace kx_x1 := cell_later hb10 kx_x1
  have zt10 := T10.size
  clear T9 zt9 hb10
  clear o_t5
  go_wp2_with fail
  go_region_held3 (fun w' => w'.cell? ⟨w.heap.size, 0, none⟩ = some (.slice A1 xs1.length c1) ∧ w'.cell? ⟨w7.heap.size, 0, none⟩ = some (.slice (some ⟨g7, 0, none⟩) xs1.length xs1.length)) (first | exact ⟨kb0_0, kx_x1⟩ | go_keep)
    (first
      | (go_at_call 17; refine (toCard_any _ _ _ _ ?_ ?_).mono ?_; (first | exact (r1.more zt10) | exact ((r1.more zt10)).drew); (omega); rintro e w11 ⟨g11, rfl, ho11, hb11⟩; have hb11 : Below w10.heap.size w10 w11 := ⟨hb11.os, hb11.tape, hb11.output, hb11.size, hb11.block⟩; have ho11 : World.ownsRow w11 w10.heap.size _ _ _ _ _ := ho11; have T11 := bs T10 hb11; have z11 := hb11.size; replace r0 := r0.bs zt10 hb11; replace r1 := r1.bs zt10 hb11; replace o_x0 := o_x0.bs hb11; replace o_x1 := o_x1.bs hb11; replace kb0_0 := cell_later hb11 kb0_0; replace kx_x1 := cell_later hb11 kx_x1; have zt11 := T11.size; clear T10 zt10 hb11; have o_t6 := Ob.of ho11; clear ho11)
      | (go_at_call 19; refine (eqCard_same _ _ _ _ (xs1) _ ?_ ?_ ?_).mono ?_; (first | exact o_x1.rd | exact (o_x1.rd).drew); (first | exact o_t6.rd | exact (o_t6.rd).drew); (omega); rintro e w12 ⟨rfl, hb12⟩; have hb12 : Below w11.heap.size w11 w12 := ⟨hb12.os, hb12.tape, hb12.output, hb12.size, hb12.block⟩; have T12 := bs T11 hb12; have z12 := hb12.size; replace r0 := r0.bs zt11 hb12; replace r1 := r1.bs zt11 hb12; replace o_x0 := o_x0.bs hb12; replace o_x1 := o_x1.bs hb12; replace o_t6 := o_t6.bs hb12; replace kb0_0 := cell_later hb12 kb0_0; replace kx_x1 := cell_later hb12 kx_x1; have zt12 := T12.size; clear T11 zt11 hb12)
    )
  clear o_t6
  go_wp2
  go_ret
  exact ⟨rfl, T12⟩

set_option maxRecDepth 100000 in
theorem lawNearestCard_lifted (os : Os) (started : os.Started) (H : Type) (enc : TypeId × Value → H) :
    ReturnsInHanded {} Try.checked os 8 .any (Rows.fnExactNearestCardSpec.pre6 enc Try.prog Try.f8 Rows.fnExactNearestCardRow.domain false) (Rows.fnExactNearestCardSpec.post enc Try.prog Try.f8 false true false false) := by
  refine returnsInHanded_of_change (C := Try.checked) lawOwn started (by kernel_rfl) Try.func8
    (ChangeSpec.witness6 (enc := enc) (C := Try.checked) false ⟨#[], #[.slice none 0 0, .agg #[.slice none 0 0]], []⟩ 8 (by kernel_rfl) (by kernel_rfl) (by kernel_rfl) (by kernel_rfl)) ?_
  intro W base args ds gs before hval0 hW _ _
  have hval : ∀ (j : Nat) t v, Try.f8.params[j]? = some t → args[j]? = some v → Value.okWide Try.prog W .any base t v := hval0
  clear hval0
  have hW0 : DataW.Whole enc Try.prog Try.f8.params.toList Rows.fnExactNearestCardSpec.vars false W args.toList ds gs before := hW
  clear hW
  have hW := hW0
  obtain ⟨p, q, hA, hV, _, _, _⟩ := hW
  rw [Try.params8] at hA hval
  obtain ⟨v0, vs0, d0, ds0, p0, q0, hargs, rfl, rfl, h0, hA0⟩ := trodAll_cons hA
  obtain ⟨v1, vs1, d1, ds1, p1, q1, rfl, rfl, rfl, h1, hA1⟩ := trodAll_cons hA0
  obtain ⟨rfl, rfl, rfl⟩ := trodAll_nil hA1
  have hargs2 : args = #[v0, v1] := by cases args; simp_all
  clear hargs
  subst hargs2
  obtain ⟨D0, c0, hs0, rfl, hc0, hm0, r0, hz0⟩ := in_deck Try.underlying53 Try.underlying24 (by kernel_rfl) (by kernel_rfl) rfl Try.underlying22 Try.underlying2 (by kernel_rfl) (hval 0 53 v0 rfl rfl) h0
  obtain ⟨A1, c1, xs1, rfl, hc1, hm1, r1, hz1⟩ := in_card Try.underlying24 (by kernel_rfl) (by kernel_rfl) rfl Try.underlying22 Try.underlying2 (by kernel_rfl) (hval 1 24 v1 rfl rfl) h1
  have hcall : Calls Try.prog 8 #[.slice D0 hs0.length c0, .agg #[.slice A1 xs1.length c1]] W fun e W' => e = .returned (.bool true) ∧ Below W.heap.size W W' := by
    by_cases s0 : (hs0.length + tot hs0) ≤ 1048576
    case neg => exact lawNearestCard_no0 D0 c0 hs0 A1 c1 xs1 W r0 r1  s0 ⟨by omega, fun h hh => Nat.le_trans (r0.cap h hh) (hz0 h hh).1⟩
    by_cases s1 : (hs0.length + tot hs0) + xs1.length ≤ 1048576
    case neg => exact lawNearestCard_no1 D0 c0 hs0 A1 c1 xs1 W r0 r1 s0 s1 (by omega)
    exact lawNearestCard_yes D0 c0 hs0 A1 c1 xs1 W r0 r1 s1
  refine hcall.mono fun e W' ⟨he, hb⟩ => ⟨_, he, ?_⟩
  exact post_law (f := Try.f8) (s := Rows.fnExactNearestCardSpec) hW0 rfl (tb := 4) rfl Try.underlying4 rfl lawLaid (by kernel_rfl) hb

theorem fnExactNearestCard_holds : Rows.FnExactNearestCardSaid :=
  OpenClaim.holds_of_wide 8 Try.f8 rfl rfl rfl rfl rfl rfl rfl ⟨rfl, rfl, rfl, rfl, rfl⟩ rfl rfl rfl rfl rfl (by kernel_rfl) Try.func8 (by kernel_rfl)
    (of_decide_eq_true (by kernel_rfl)) (by unfold Func.isWrapper; first | (rw [if_pos (by decide +kernel)]; kernel_rfl) | (rw [if_neg (by decide +kernel)]; exact ⟨rfl, rfl⟩))
    (fun os started H enc _ => lawNearestCard_lifted os started H enc)
#print axioms fnExactNearestCard_holds
end Go.Proofs.Ytlnpkijeondidaa
