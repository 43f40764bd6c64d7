/- The law FnExactCompareDecks answers true at every input, and its arguments stay as they were; conditions: none. -/
import Derived.Test.YtlnpkijeondidaaRows
import Derived.Test.YtlnpkijeondidaaOpen
import Derived.Test.YtlnpkijeondidaaLawBase
import Derived.Deep.RegionHeld3
import Derived.Deep.DeepCutAuto
import Derived.Test.YtlnpkijeondidaaCompareDecks
import Derived.Test.YtlnpkijeondidaaHarnDeck
import Derived.Test.YtlnpkijeondidaaHarnCopy
import Derived.Test.YtlnpkijeondidaaOpenDeck
namespace Go.Proofs.Ytlnpkijeondidaa
open Go.RowKit Go.ChangeShapes Go.WideShapes Go.ChangeAt

set_option maxRecDepth 100000 in
theorem lawCompareDecks_no0 (D0 : Option Addr) (c0 : Nat) (hs0 : List Hd) (D1 : Option Addr) (c1 : Nat) (hs1 : List Hd) (A2 : Option Addr) (c2 : Nat) (ps2 : List (Int × Int)) (w : World) (r0 : RdD w w.heap.size D0 hs0) (_r1 : RdD w w.heap.size D1 hs1) (_r2 : Rd w w.heap.size 2 A2 ps2.length (prs ps2)) (hn : ¬ (hs0.length + tot hs0) ≤ 1048576) (hm : hs0.length ≤ maxLen ∧ ∀ h ∈ hs0, h.xs.length ≤ maxLen) :
    Calls Try.prog 11 #[.slice D0 hs0.length c0, .slice D1 hs1.length c1, .slice A2 ps2.length c2] w fun e w' => e = .returned (.bool true) ∧ Below w.heap.size w w' := by
  go_enter Try.func11, Try.ntmps11
  have T0 : Below w.heap.size w w := b0 w
  go_wp2_with fail
  refine (szCardS_no _ _ _ _ _ ((r0.below T0).more T0.size) (by omega) (by omega) hm (by omega)).mono ?_; rintro e w1 ⟨rfl, hb1⟩
  have T1 := bs T0 hb1
  go_wp2
  go_ret
  exact ⟨rfl, T1⟩

set_option maxRecDepth 100000 in
theorem lawCompareDecks_no1 (D0 : Option Addr) (c0 : Nat) (hs0 : List Hd) (D1 : Option Addr) (c1 : Nat) (hs1 : List Hd) (A2 : Option Addr) (c2 : Nat) (ps2 : List (Int × Int)) (w : World) (r0 : RdD w w.heap.size D0 hs0) (r1 : RdD w w.heap.size D1 hs1) (_r2 : Rd w w.heap.size 2 A2 ps2.length (prs ps2)) (hl : (hs0.length + tot hs0) ≤ 1048576) (hn : ¬ (hs0.length + tot hs0) + (hs1.length + tot hs1) ≤ 1048576) (hm : hs1.length ≤ maxLen ∧ ∀ h ∈ hs1, h.xs.length ≤ maxLen) :
    Calls Try.prog 11 #[.slice D0 hs0.length c0, .slice D1 hs1.length c1, .slice A2 ps2.length c2] w fun e w' => e = .returned (.bool true) ∧ Below w.heap.size w w' := by
  go_enter Try.func11, Try.ntmps11
  have T0 : Below w.heap.size w w := b0 w
  go_wp2_with fail
  refine (szCardS_yes _ _ _ _ _ ((r0.below T0).more T0.size) (by omega) (by omega)).mono ?_; rintro e w1 ⟨rfl, hb1⟩
  have T1 := bs T0 hb1
  go_wp2_with fail
  refine (szCardS_no _ _ _ _ _ ((r1.below T1).more T1.size) (by omega) (by omega) hm (by omega)).mono ?_; rintro e w2 ⟨rfl, hb2⟩
  have T2 := bs T1 hb2
  go_wp2
  go_ret
  exact ⟨rfl, T2⟩

set_option maxRecDepth 100000 in
theorem lawCompareDecks_no2 (D0 : Option Addr) (c0 : Nat) (hs0 : List Hd) (D1 : Option Addr) (c1 : Nat) (hs1 : List Hd) (A2 : Option Addr) (c2 : Nat) (ps2 : List (Int × Int)) (w : World) (r0 : RdD w w.heap.size D0 hs0) (r1 : RdD w w.heap.size D1 hs1) (_r2 : Rd w w.heap.size 2 A2 ps2.length (prs ps2)) (hl : (hs0.length + tot hs0) + (hs1.length + tot hs1) ≤ 1048576) (hn : ¬ (hs0.length + tot hs0) + (hs1.length + tot hs1) + ps2.length ≤ 1048576) (hm : ps2.length ≤ maxLen) :
    Calls Try.prog 11 #[.slice D0 hs0.length c0, .slice D1 hs1.length c1, .slice A2 ps2.length c2] w fun e w' => e = .returned (.bool true) ∧ Below w.heap.size w w' := by
  go_enter Try.func11, Try.ntmps11
  have T0 : Below w.heap.size w w := b0 w
  go_wp2_with fail
  refine (szCardS_yes _ _ _ _ _ ((r0.below T0).more T0.size) (by omega) (by omega)).mono ?_; rintro e w1 ⟨rfl, hb1⟩
  have T1 := bs T0 hb1
  go_wp2_with fail
  refine (szCardS_yes _ _ _ _ _ ((r1.below T1).more T1.size) (by omega) (by omega)).mono ?_; rintro e w2 ⟨rfl, hb2⟩
  have T2 := bs T1 hb2
  go_wp2_with fail
  refine (szCopyS_no_L _ _ _ _ _ (by omega) (by omega) hm (by omega)).mono ?_; rintro e w3 ⟨rfl, hb3⟩
  have T3 := bs T2 hb3
  go_wp2
  go_ret
  exact ⟨rfl, T3⟩

set_option maxRecDepth 100000 in
set_option maxHeartbeats 8000000 in
theorem lawCompareDecks_yes (D0 : Option Addr) (c0 : Nat) (hs0 : List Hd) (D1 : Option Addr) (c1 : Nat) (hs1 : List Hd) (A2 : Option Addr) (c2 : Nat) (ps2 : List (Int × Int)) (w : World) (r0 : RdD w w.heap.size D0 hs0) (r1 : RdD w w.heap.size D1 hs1) (r2 : Rd w w.heap.size 2 A2 ps2.length (prs ps2)) (hl : (hs0.length + tot hs0) + (hs1.length + tot hs1) + ps2.length ≤ 1048576) :
    Calls Try.prog 11 #[.slice D0 hs0.length c0, .slice D1 hs1.length c1, .slice A2 ps2.length c2] w fun e w' => e = .returned (.bool true) ∧ Below w.heap.size w w' := by
  go_enter Try.func11, Try.ntmps11
  have T0 : Below w.heap.size w w := b0 w
  have zt0 := T0.size
  replace r0 := r0.below T0
  replace r1 := r1.below T0
  replace r2 := r2.below T0
  go_wp2_with fail
  refine (szCardS_yes _ _ _ _ _ (r0.more zt0) (by omega) (by omega)).mono ?_; rintro e w1 ⟨rfl, hb1⟩
  have T1 := bs T0 hb1
  have z1 := hb1.size
  replace r0 := r0.bs zt0 hb1
  replace r1 := r1.bs zt0 hb1
  replace r2 := r2.bs zt0 hb1
  have zt1 := T1.size
  clear T0 zt0 hb1
  go_wp2_with fail
  refine (szCardS_yes _ _ _ _ _ (r1.more zt1) (by omega) (by omega)).mono ?_; rintro e w2 ⟨rfl, hb2⟩
  have T2 := bs T1 hb2
  have z2 := hb2.size
  replace r0 := r0.bs zt1 hb2
  replace r1 := r1.bs zt1 hb2
  replace r2 := r2.bs zt1 hb2
  have zt2 := T2.size
  clear T1 zt1 hb2
  go_wp2_with fail
  refine (szCopyS_yes_L _ _ _ _ _ (by omega) (by omega)).mono ?_; rintro e w3 ⟨rfl, hb3⟩
  have T3 := bs T2 hb3
  have z3 := hb3.size
  replace r0 := r0.bs zt2 hb3
  replace r1 := r1.bs zt2 hb3
  replace r2 := r2.bs zt2 hb3
  have zt3 := T3.size
  clear T2 zt2 hb3
  go_wp2_with fail
  refine (toCardS_any _ _ _ _ (r0.more zt3) (by omega)).mono ?_; rintro e w4 ⟨g4, gs4, rfl, hcs4, ho4, hb4⟩
  have T4 := bs T3 hb4
  have z4 := hb4.size
  replace r0 := r0.bs zt3 hb4
  replace r1 := r1.bs zt3 hb4
  replace r2 := r2.bs zt3 hb4
  have zt4 := T4.size
  clear T3 zt3 hb4
  have o_t1 := ho4
  clear ho4
  have bd_t1 : gs4.length + tot gs4 ≤ 1048576 := by have h1 := tot_cards hcs4; have h2 := (cards_same hcs4).1; omega
  go_wp2_with fail
  refine (toCardS_any _ _ _ _ (r1.more zt4) (by omega)).mono ?_; rintro e w5 ⟨g5, gs5, rfl, hcs5, ho5, hb5⟩
  have T5 := bs T4 hb5
  have z5 := hb5.size
  replace r0 := r0.bs zt4 hb5
  replace r1 := r1.bs zt4 hb5
  replace r2 := r2.bs zt4 hb5
  replace o_t1 := o_t1.bs hb5
  have zt5 := T5.size
  clear T4 zt4 hb5
  have o_t2 := ho5
  clear ho5
  have bd_t2 : gs5.length + tot gs5 ≤ 1048576 := by have h1 := tot_cards hcs5; have h2 := (cards_same hcs5).1; omega
  go_wp2_with fail
  refine (toCopyS_any _ _ _ _ (r2.more zt5) (by omega)).mono ?_; rintro e w6 ⟨g6, rfl, ho6, hb6⟩
  have T6 := bs T5 hb6
  have z6 := hb6.size
  replace r0 := r0.bs zt5 hb6
  replace r1 := r1.bs zt5 hb6
  replace r2 := r2.bs zt5 hb6
  replace o_t1 := o_t1.bs hb6
  replace o_t2 := o_t2.bs hb6
  have zt6 := T6.size
  clear T5 zt5 hb6
  have o_t3 := Ob.of ho6
  clear ho6
  go_wp2_with fail
  refine (spCompareDecks_any (some ⟨g4, 0, none⟩) _ gs4 (cards hs0) (some ⟨g5, 0, none⟩) _ gs5 (cards hs1) (some ⟨g6, 0, none⟩) _ (ps2) _ o_t1.rd hcs4 bd_t1 o_t1.cap.1 o_t2.rd hcs5 bd_t2 o_t2.cap.1 o_t3.rd (by omega) ).mono ?_; rintro e w7 ⟨rfl, hb7⟩
  have T7 := bs T6 hb7
  have z7 := hb7.size
  replace r0 := r0.bs zt6 hb7
  replace r1 := r1.bs zt6 hb7
  replace r2 := r2.bs zt6 hb7
  replace o_t1 := o_t1.bs hb7
  replace o_t2 := o_t2.bs hb7
  replace o_t3 := o_t3.bs hb7
  have zt7 := T7.size
  clear T6 zt6 hb7
  clear o_t1
  clear o_t2
  clear o_t3
  go_wp2_with fail
  refine (toCardS_any _ _ _ _ (r0.more zt7) (by omega)).mono ?_; rintro e w8 ⟨g8, gs8, rfl, hcs8, ho8, hb8⟩
  have T8 := bs T7 hb8
  have z8 := hb8.size
  replace r0 := r0.bs zt7 hb8
  replace r1 := r1.bs zt7 hb8
  replace r2 := r2.bs zt7 hb8
  have zt8 := T8.size
  clear T7 zt7 hb8
  have o_t4 := ho8
  clear ho8
  have bd_t4 : gs8.length + tot gs8 ≤ 1048576 := by have h1 := tot_cards hcs8; have h2 := (cards_same hcs8).1; omega
  have o_x0 := o_t4
  clear o_t4
  go_wp2_with fail
  refine (toCardS_any _ _ _ _ (r1.more zt8) (by omega)).mono ?_; rintro e w9 ⟨g9, gs9, rfl, hcs9, ho9, hb9⟩
  have T9 := bs T8 hb9
  have z9 := hb9.size
  replace r0 := r0.bs zt8 hb9
  replace r1 := r1.bs zt8 hb9
  replace r2 := r2.bs zt8 hb9
  replace o_x0 := o_x0.bs hb9
  have zt9 := T9.size
  clear T8 zt8 hb9
  have o_t5 := ho9
  clear ho9
  have bd_t5 : gs9.length + tot gs9 ≤ 1048576 := by have h1 := tot_cards hcs9; have h2 := (cards_same hcs9).1; omega
  have o_x1 := o_t5
  clear o_t5
  go_wp2_with fail
  refine (toCopyS_any _ _ _ _ (r2.more zt9) (by omega)).mono ?_; rintro e w10 ⟨g10, rfl, ho10, hb10⟩
  have T10 := bs T9 hb10
  have z10 := hb10.size
  replace r0 := r0.bs zt9 hb10
  replace r1 := r1.bs zt9 hb10
  replace r2 := r2.bs zt9 hb10
  replace o_x0 := o_x0.bs hb10
  replace o_x1 := o_x1.bs hb10
  have zt10 := T10.size
  clear T9 zt9 hb10
  have o_t6 := Ob.of ho10
  clear ho10
  have o_x2 := o_t6
  clear o_t6
  go_wp2_with fail
  refine (CompareDecks_any (some ⟨g8, 0, none⟩) _ gs8 (cards hs0) (some ⟨g9, 0, none⟩) _ gs9 (cards hs1) (some ⟨g10, 0, none⟩) _ (ps2) _ o_x0.rd hcs8 bd_t4 o_x0.cap.1 o_x1.rd hcs9 bd_t5 o_x1.cap.1 o_x2.rd (by omega) ).mono ?_; rintro e w11 ⟨rfl, hb11⟩
  have T11 := bs T10 hb11
  have z11 := hb11.size
  replace r0 := r0.bs zt10 hb11
  replace r1 := r1.bs zt10 hb11
  replace r2 := r2.bs zt10 hb11
  replace o_x0 := o_x0.bs hb11
  replace o_x1 := o_x1.bs hb11
  replace o_x2 := o_x2.bs hb11
  have zt11 := T11.size
  clear T10 zt10 hb11
  go_wp2_with fail
  refine (toCardS_any _ _ _ _ (r0.more zt11) (by omega)).mono ?_; rintro e w12 ⟨g12, gs12, rfl, hcs12, ho12, hb12⟩
  have T12 := bs T11 hb12
  have z12 := hb12.size
  replace r0 := r0.bs zt11 hb12
  replace r1 := r1.bs zt11 hb12
  replace r2 := r2.bs zt11 hb12
  replace o_x0 := o_x0.bs hb12
  replace o_x1 := o_x1.bs hb12
  replace o_x2 := o_x2.bs hb12
  have zt12 := T12.size
  clear T11 zt11 hb12
  have o_t7 := ho12
  clear ho12
  have bd_t7 : gs12.length + tot gs12 ≤ 1048576 := by have h1 := tot_cards hcs12; have h2 := (cards_same hcs12).1; omega
  go_wp2_with fail
  refine (eqCardS_same _ _ _ _ gs8 gs12 _ o_x0.rd o_t7.rd (hcs8.trans hcs12.symm) bd_t4).mono ?_; rintro e w13 ⟨rfl, hb13⟩
  have T13 := bs T12 hb13
  have z13 := hb13.size
  replace r0 := r0.bs zt12 hb13
  replace r1 := r1.bs zt12 hb13
  replace r2 := r2.bs zt12 hb13
  replace o_x0 := o_x0.bs hb13
  replace o_x1 := o_x1.bs hb13
  replace o_x2 := o_x2.bs hb13
  replace o_t7 := o_t7.bs hb13
  have zt13 := T13.size
  clear T12 zt12 hb13
  clear o_t7
  go_wp2_with fail
  refine (toCardS_any _ _ _ _ (r1.more zt13) (by omega)).mono ?_; rintro e w14 ⟨g14, gs14, rfl, hcs14, ho14, hb14⟩
  have T14 := bs T13 hb14
  have z14 := hb14.size
  replace r0 := r0.bs zt13 hb14
  replace r1 := r1.bs zt13 hb14
  replace r2 := r2.bs zt13 hb14
  replace o_x0 := o_x0.bs hb14
  replace o_x1 := o_x1.bs hb14
  replace o_x2 := o_x2.bs hb14
  have zt14 := T14.size
  clear T13 zt13 hb14
  have o_t8 := ho14
  clear ho14
  have bd_t8 : gs14.length + tot gs14 ≤ 1048576 := by have h1 := tot_cards hcs14; have h2 := (cards_same hcs14).1; omega
  go_wp2_with fail
  refine (eqCardS_same _ _ _ _ gs9 gs14 _ o_x1.rd o_t8.rd (hcs9.trans hcs14.symm) bd_t5).mono ?_; rintro e w15 ⟨rfl, hb15⟩
  have T15 := bs T14 hb15
  have z15 := hb15.size
  replace r0 := r0.bs zt14 hb15
  replace r1 := r1.bs zt14 hb15
  replace r2 := r2.bs zt14 hb15
  replace o_x0 := o_x0.bs hb15
  replace o_x1 := o_x1.bs hb15
  replace o_x2 := o_x2.bs hb15
  replace o_t8 := o_t8.bs hb15
  have zt15 := T15.size
  clear T14 zt14 hb15
  clear o_t8
  go_wp2_with fail
  refine (toCopyS_any _ _ _ _ (r2.more zt15) (by omega)).mono ?_; rintro e w16 ⟨g16, rfl, ho16, hb16⟩
  have T16 := bs T15 hb16
  have z16 := hb16.size
  replace r0 := r0.bs zt15 hb16
  replace r1 := r1.bs zt15 hb16
  replace r2 := r2.bs zt15 hb16
  replace o_x0 := o_x0.bs hb16
  replace o_x1 := o_x1.bs hb16
  replace o_x2 := o_x2.bs hb16
  have zt16 := T16.size
  clear T15 zt15 hb16
  have o_t9 := Ob.of ho16
  clear ho16
  go_wp2_with fail
  refine (eqCopyS_same _ _ _ _ (ps2) _ o_x2.rd o_t9.rd (by omega)).mono ?_; rintro e w17 ⟨rfl, hb17⟩
  have T17 := bs T16 hb17
  have z17 := hb17.size
  replace r0 := r0.bs zt16 hb17
  replace r1 := r1.bs zt16 hb17
  replace r2 := r2.bs zt16 hb17
  replace o_x0 := o_x0.bs hb17
  replace o_x1 := o_x1.bs hb17
  replace o_x2 := o_x2.bs hb17
  replace o_t9 := o_t9.bs hb17
  have zt17 := T17.size
  clear T16 zt16 hb17
  clear o_t9
  go_wp2
  go_ret
  exact ⟨rfl, T17⟩

set_option maxRecDepth 100000 in
theorem lawCompareDecks_lifted (os : Os) (started : os.Started) (H : Type) (enc : TypeId × Value → H) :
    ReturnsInHanded {} Try.checked os 11 .any (Rows.fnExactCompareDecksSpec.pre6 enc Try.prog Try.f11 Rows.fnExactCompareDecksRow.domain false) (Rows.fnExactCompareDecksSpec.post enc Try.prog Try.f11 false true false false) := by
  refine returnsInHanded_of_change (C := Try.checked) lawOwn started (by kernel_rfl) Try.func11
    (ChangeSpec.witness6 (enc := enc) (C := Try.checked) false ⟨#[], #[.slice none 0 0, .slice none 0 0, .slice none 0 0], []⟩ 8 (by kernel_rfl) (by kernel_rfl) (by kernel_rfl) (by kernel_rfl)) ?_
  intro W base args ds gs before hval0 hW _ _
  have hval : ∀ (j : Nat) t v, Try.f11.params[j]? = some t → args[j]? = some v → Value.okWide Try.prog W .any base t v := hval0
  clear hval0
  have hW0 : DataW.Whole enc Try.prog Try.f11.params.toList Rows.fnExactCompareDecksSpec.vars false W args.toList ds gs before := hW
  clear hW
  have hW := hW0
  obtain ⟨p, q, hA, hV, _, _, _⟩ := hW
  rw [Try.params11] at hA hval
  obtain ⟨v0, vs0, d0, ds0, p0, q0, hargs, rfl, rfl, h0, hA0⟩ := trodAll_cons hA
  obtain ⟨v1, vs1, d1, ds1, p1, q1, rfl, rfl, rfl, h1, hA1⟩ := trodAll_cons hA0
  obtain ⟨v2, vs2, d2, ds2, p2, q2, rfl, rfl, rfl, h2, hA2⟩ := trodAll_cons hA1
  obtain ⟨rfl, rfl, rfl⟩ := trodAll_nil hA2
  have hargs2 : args = #[v0, v1, v2] := by cases args; simp_all
  clear hargs
  subst hargs2
  obtain ⟨D0, c0, hs0, rfl, hc0, hm0, r0, hz0⟩ := in_deck Try.underlying53 Try.underlying24 (by kernel_rfl) (by kernel_rfl) rfl Try.underlying22 Try.underlying2 (by kernel_rfl) (hval 0 53 v0 rfl rfl) h0
  obtain ⟨D1, c1, hs1, rfl, hc1, hm1, r1, hz1⟩ := in_deck Try.underlying53 Try.underlying24 (by kernel_rfl) (by kernel_rfl) rfl Try.underlying22 Try.underlying2 (by kernel_rfl) (hval 1 53 v1 rfl rfl) h1
  obtain ⟨A2, c2, ps2, rfl, hc2, hm2, r2, hz2⟩ := in_pairs Try.underlying38 Try.underlying109 (by kernel_rfl) (by kernel_rfl) rfl rfl Try.underlying2 Try.underlying2 (hval 2 38 v2 rfl rfl) h2
  have hcall : Calls Try.prog 11 #[.slice D0 hs0.length c0, .slice D1 hs1.length c1, .slice A2 ps2.length c2] W fun e W' => e = .returned (.bool true) ∧ Below W.heap.size W W' := by
    by_cases s0 : (hs0.length + tot hs0) ≤ 1048576
    case neg => exact lawCompareDecks_no0 D0 c0 hs0 D1 c1 hs1 A2 c2 ps2 W r0 r1 r2  s0 ⟨by omega, fun h hh => Nat.le_trans (r0.cap h hh) (hz0 h hh).1⟩
    by_cases s1 : (hs0.length + tot hs0) + (hs1.length + tot hs1) ≤ 1048576
    case neg => exact lawCompareDecks_no1 D0 c0 hs0 D1 c1 hs1 A2 c2 ps2 W r0 r1 r2 s0 s1 ⟨by omega, fun h hh => Nat.le_trans (r1.cap h hh) (hz1 h hh).1⟩
    by_cases s2 : (hs0.length + tot hs0) + (hs1.length + tot hs1) + ps2.length ≤ 1048576
    case neg => exact lawCompareDecks_no2 D0 c0 hs0 D1 c1 hs1 A2 c2 ps2 W r0 r1 r2 s1 s2 (by omega)
    exact lawCompareDecks_yes D0 c0 hs0 D1 c1 hs1 A2 c2 ps2 W r0 r1 r2 s2
  refine hcall.mono fun e W' ⟨he, hb⟩ => ⟨_, he, ?_⟩
  exact post_law (f := Try.f11) (s := Rows.fnExactCompareDecksSpec) hW0 rfl (tb := 4) rfl Try.underlying4 rfl lawLaid (by kernel_rfl) hb

theorem fnExactCompareDecks_holds : Rows.FnExactCompareDecksSaid :=
  OpenClaim.holds_of_wide 11 Try.f11 rfl rfl rfl rfl rfl rfl rfl ⟨rfl, rfl, rfl, rfl, rfl⟩ rfl rfl rfl rfl rfl (by kernel_rfl) Try.func11 (by kernel_rfl)
    (of_decide_eq_true (by kernel_rfl)) (by unfold Func.isWrapper; first | (rw [if_pos (by decide +kernel)]; kernel_rfl) | (rw [if_neg (by decide +kernel)]; exact ⟨rfl, rfl⟩))
    (fun os started H enc _ => lawCompareDecks_lifted os started H enc)
#print axioms fnExactCompareDecks_holds
end Go.Proofs.Ytlnpkijeondidaa
