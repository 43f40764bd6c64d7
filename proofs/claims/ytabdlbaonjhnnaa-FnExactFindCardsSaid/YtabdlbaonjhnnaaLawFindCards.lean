/- The law FnExactFindCards answers true at every input, and its arguments stay as they were; conditions: none. -/
import Derived.Test.YtabdlbaonjhnnaaRows
import Derived.Test.YtabdlbaonjhnnaaOpen
import Derived.Test.YtabdlbaonjhnnaaLawBase
import Derived.Deep.RegionHeld3
import Derived.Deep.DeepCutAuto
import Derived.Test.YtabdlbaonjhnnaaFind
import Derived.Test.YtabdlbaonjhnnaaHarnDeck
import Derived.Test.YtabdlbaonjhnnaaOpenDeck
namespace Go.Proofs.Ytabdlbaonjhnnaa
open Go.RowKit Go.ChangeShapes Go.WideShapes Go.ChangeAt

set_option maxRecDepth 100000 in
theorem lawFindCards_no0 (D0 : Option Addr) (c0 : Nat) (hs0 : List Hd) (fa1 fb1 : Int) (s2 : ByteArray) (w : World) (r0 : RdD w w.heap.size D0 hs0) (_hq2 : s2.size ≤ 1048576) (hn : ¬ (hs0.length + tot hs0) ≤ 1048576) (hm : hs0.length ≤ maxLen ∧ ∀ h ∈ hs0, h.xs.length ≤ maxLen) :
    Calls Try.prog 5 #[.slice D0 hs0.length c0, .agg #[.int .i64 fa1, .int .i64 fb1], .string s2] w fun e w' => e = .returned (.bool true) ∧ Below w.heap.size w w' := by
  go_enter Try.func5, Try.ntmps5
  have T0 : Below w.heap.size w (w.alloc (.cells #[.int .i64 fa1, .int .i64 fb1] 24)) := ba (b0 w) _
  have kb0_0 : World.cell? (w.alloc (.cells #[.int .i64 fa1, .int .i64 fb1] 24)) ⟨w.heap.size, 0, none⟩ = some (.int .i64 fa1) := by simp
  have kb0_1 : World.cell? (w.alloc (.cells #[.int .i64 fa1, .int .i64 fb1] 24)) ⟨w.heap.size, 1, none⟩ = some (.int .i64 fb1) := by simp
  go_wp2_with fail
  refine (szCardS_no _ _ _ _ _ ((r0.below T0).more T0.size) (by omega) (by omega) hm (by omega)).mono ?_; rintro e w1 ⟨rfl, hb1⟩
  have T1 := bs T0 hb1
  go_wp2
  go_ret
  exact ⟨rfl, T1⟩

set_option maxRecDepth 100000 in
theorem lawFindCards_big0 (D0 : Option Addr) (c0 : Nat) (hs0 : List Hd) (fa1 fb1 : Int) (s2 : ByteArray) (w : World) (_r0 : RdD w w.heap.size D0 hs0) (hbig : ¬ s2.size ≤ 1048576) (hmx : s2.size ≤ maxLen) :
    Calls Try.prog 5 #[.slice D0 hs0.length c0, .agg #[.int .i64 fa1, .int .i64 fb1], .string s2] w fun e w' => e = .returned (.bool true) ∧ Below w.heap.size w w' := by
  go_enter Try.func5, Try.ntmps5
  have T0 : Below w.heap.size w (w.alloc (.cells #[.int .i64 fa1, .int .i64 fb1] 24)) := ba (b0 w) _
  have hbig2 : 1048576 < s2.size := by omega
  go_wp2
  go_ret
  exact ⟨rfl, T0⟩

set_option maxRecDepth 100000 in
set_option maxHeartbeats 8000000 in
theorem lawFindCards_yes (D0 : Option Addr) (c0 : Nat) (hs0 : List Hd) (fa1 fb1 : Int) (s2 : ByteArray) (w : World) (r0 : RdD w w.heap.size D0 hs0) (hq2 : s2.size ≤ 1048576) (hl : (hs0.length + tot hs0) ≤ 1048576) :
    Calls Try.prog 5 #[.slice D0 hs0.length c0, .agg #[.int .i64 fa1, .int .i64 fb1], .string s2] w fun e w' => e = .returned (.bool true) ∧ Below w.heap.size w w' := by
  go_enter Try.func5, Try.ntmps5
  have T0 : Below w.heap.size w (w.alloc (.cells #[.int .i64 fa1, .int .i64 fb1] 24)) := ba (b0 w) _
  have zt0 := T0.size
  have kb0_0 : World.cell? (w.alloc (.cells #[.int .i64 fa1, .int .i64 fb1] 24)) ⟨w.heap.size, 0, none⟩ = some (.int .i64 fa1) := by simp
  have kb0_1 : World.cell? (w.alloc (.cells #[.int .i64 fa1, .int .i64 fb1] 24)) ⟨w.heap.size, 1, none⟩ = some (.int .i64 fb1) := by simp
  replace r0 := r0.below T0
  go_wp2_with fail
  refine (szCardS_yes _ _ _ _ _ (r0.more zt0) (by omega) (by omega)).mono ?_; rintro e w1 ⟨rfl, hb1⟩
  have T1 := bs T0 hb1
  have z1 := hb1.size
  simp only [World.size_alloc] at z1
  replace r0 := r0.bs zt0 hb1
  replace kb0_0 := cell_later hb1 kb0_0
  replace kb0_1 := cell_later hb1 kb0_1
  have zt1 := T1.size
  clear T0 zt0 hb1
  go_wp2_with fail
  go_region_held3 (fun w' => w'.cell? ⟨w.heap.size, 0, none⟩ = some (.int .i64 fa1) ∧ w'.cell? ⟨w.heap.size, 1, none⟩ = some (.int .i64 fb1)) (first | exact ⟨kb0_0, kb0_1⟩ | go_keep)
    (first
      | (go_at_call 17; refine (toCardS_any _ _ _ _ ?_ ?_).mono ?_; (first | exact (r0.more zt1) | exact ((r0.more zt1)).drew); (omega); rintro e w2 ⟨g2, gs2, rfl, hcs2, ho2, hb2⟩; have hb2 : Below w1.heap.size w1 w2 := ⟨hb2.os, hb2.tape, hb2.output, hb2.size, hb2.block⟩; have ho2 : ObD w2 w1.heap.size _ _ _ _ _ _ := ho2; have T2 := bs T1 hb2; have z2 := hb2.size; replace r0 := r0.bs zt1 hb2; replace kb0_0 := cell_later hb2 kb0_0; replace kb0_1 := cell_later hb2 kb0_1; have zt2 := T2.size; clear T1 zt1 hb2; have o_t1 := ho2; clear ho2; have bd_t1 : gs2.length + tot gs2 ≤ 1048576 := (by have h1 := tot_cards hcs2; have h2 := (cards_same hcs2).1; omega))
      | (go_at_call 18; refine (toField_any _ _ _).mono ?_; rintro e w3 ⟨rfl, hb3⟩; have hb3 : Below w2.heap.size w2 w3 := ⟨hb3.os, hb3.tape, hb3.output, hb3.size, hb3.block⟩; have T3 := bs T2 hb3; have z3 := hb3.size; replace r0 := r0.bs zt2 hb3; replace o_t1 := o_t1.bs hb3; replace kb0_0 := cell_later hb3 kb0_0; replace kb0_1 := cell_later hb3 kb0_1; have zt3 := T3.size; clear T2 zt2 hb3)
      | (go_at_call 25; refine (spFindCards_any (some ⟨g2, 0, none⟩) _ gs2 (cards hs0) fa1 fb1 s2 _ ?_ hcs2 bd_t1 ?_ hq2).mono ?_; (first | exact o_t1.rd | exact (o_t1.rd).drew); (exact o_t1.cap.1); rintro e w4 ⟨rfl, hb4⟩; have hb4 : Below w3.heap.size w3 w4 := ⟨hb4.os, hb4.tape, hb4.output, hb4.size, hb4.block⟩; have T4 := bs T3 hb4; have z4 := hb4.size; replace r0 := r0.bs zt3 hb4; replace o_t1 := o_t1.bs hb4; replace kb0_0 := cell_later hb4 kb0_0; replace kb0_1 := cell_later hb4 kb0_1; have zt4 := T4.size; clear T3 zt3 hb4)
    )
  clear o_t1
  go_wp2_with fail
  refine (toCardS_any _ _ _ _ (r0.more zt4) (by omega)).mono ?_; rintro e w5 ⟨g5, gs5, rfl, hcs5, ho5, hb5⟩
  have T5 := bs T4 hb5
  have z5 := hb5.size
  replace r0 := r0.bs zt4 hb5
  replace kb0_0 := cell_later hb5 kb0_0
  replace kb0_1 := cell_later hb5 kb0_1
  have zt5 := T5.size
  clear T4 zt4 hb5
  have o_t3 := ho5
  clear ho5
  have bd_t3 : gs5.length + tot gs5 ≤ 1048576 := by have h1 := tot_cards hcs5; have h2 := (cards_same hcs5).1; omega
  have o_x0 := o_t3
  clear o_t3
  go_wp2_with fail
  refine (toField_any _ _ _).mono ?_; rintro e w6 ⟨rfl, hb6⟩
  have T6 := bs T5 hb6
  have z6 := hb6.size
  replace r0 := r0.bs zt5 hb6
  replace o_x0 := o_x0.bs hb6
  replace kb0_0 := cell_later hb6 kb0_0
  replace kb0_1 := cell_later hb6 kb0_1
  have zt6 := T6.size
  clear T5 zt5 hb6
  go_wp2_with fail
  refine (FindCards_any (some ⟨g5, 0, none⟩) _ gs5 (cards hs0) fa1 fb1 s2 _ o_x0.rd hcs5 bd_t3 o_x0.cap.1 hq2 ).mono ?_; rintro e w7 ⟨rfl, hb7⟩
  have T7 := bs T6 hb7
  have z7 := hb7.size
  replace r0 := r0.bs zt6 hb7
  replace o_x0 := o_x0.bs hb7
  replace kb0_0 := cell_later hb7 kb0_0
  replace kb0_1 := cell_later hb7 kb0_1
  have zt7 := T7.size
  clear T6 zt6 hb7
  go_wp2_with fail
  refine (toCardS_any _ _ _ _ (r0.more zt7) (by omega)).mono ?_; rintro e w8 ⟨g8, gs8, rfl, hcs8, ho8, hb8⟩
  have T8 := bs T7 hb8
  have z8 := hb8.size
  replace r0 := r0.bs zt7 hb8
  replace o_x0 := o_x0.bs hb8
  replace kb0_0 := cell_later hb8 kb0_0
  replace kb0_1 := cell_later hb8 kb0_1
  have zt8 := T8.size
  clear T7 zt7 hb8
  have o_t5 := ho8
  clear ho8
  have bd_t5 : gs8.length + tot gs8 ≤ 1048576 := by have h1 := tot_cards hcs8; have h2 := (cards_same hcs8).1; omega
  go_wp2_with fail
  refine (eqCardS_same _ _ _ _ gs5 gs8 _ o_x0.rd o_t5.rd (hcs5.trans hcs8.symm) bd_t3).mono ?_; rintro e w9 ⟨rfl, hb9⟩
  have T9 := bs T8 hb9
  have z9 := hb9.size
  replace r0 := r0.bs zt8 hb9
  replace o_x0 := o_x0.bs hb9
  replace o_t5 := o_t5.bs hb9
  replace kb0_0 := cell_later hb9 kb0_0
  replace kb0_1 := cell_later hb9 kb0_1
  have zt9 := T9.size
  clear T8 zt8 hb9
  clear o_t5
  go_wp2
  go_ret
  exact ⟨rfl, T9⟩

set_option maxRecDepth 100000 in
theorem lawFindCards_lifted (os : Os) (started : os.Started) (H : Type) (enc : TypeId × Value → H) :
    ReturnsInHanded {} Try.checked os 5 .any (Rows.fnExactFindCardsSpec.pre6 enc Try.prog Try.f5 Rows.fnExactFindCardsRow.domain false) (Rows.fnExactFindCardsSpec.post enc Try.prog Try.f5 false true false false) := by
  refine returnsInHanded_of_change (C := Try.checked) lawOwn started (by kernel_rfl) Try.func5
    (ChangeSpec.witness6 (enc := enc) (C := Try.checked) false ⟨#[], #[.slice none 0 0, .agg #[.int .i64 0, .int .i64 0], .string ⟨#[]⟩], []⟩ 8 (by kernel_rfl) (by kernel_rfl) (by kernel_rfl) (by kernel_rfl)) ?_
  intro W base args ds gs before hval0 hW _ _
  have hval : ∀ (j : Nat) t v, Try.f5.params[j]? = some t → args[j]? = some v → Value.okWide Try.prog W .any base t v := hval0
  clear hval0
  have hW0 : DataW.Whole enc Try.prog Try.f5.params.toList Rows.fnExactFindCardsSpec.vars false W args.toList ds gs before := hW
  clear hW
  have hW := hW0
  obtain ⟨p, q, hA, hV, _, _, _⟩ := hW
  rw [Try.params5] at hA hval
  obtain ⟨v0, vs0, d0, ds0, p0, q0, hargs, rfl, rfl, h0, hA0⟩ := trodAll_cons hA
  obtain ⟨v1, vs1, d1, ds1, p1, q1, rfl, rfl, rfl, h1, hA1⟩ := trodAll_cons hA0
  obtain ⟨v2, vs2, d2, ds2, p2, q2, rfl, rfl, rfl, h2, hA2⟩ := trodAll_cons hA1
  obtain ⟨rfl, rfl, rfl⟩ := trodAll_nil hA2
  have hargs2 : args = #[v0, v1, v2] := by cases args; simp_all
  clear hargs
  subst hargs2
  obtain ⟨D0, c0, hs0, rfl, hc0, hm0, r0, hz0⟩ := in_deck Try.underlying22 Try.underlying59 (by kernel_rfl) (by kernel_rfl) rfl Try.underlying51 Try.underlying2 (by kernel_rfl) (hval 0 22 v0 rfl rfl) h0
  obtain ⟨fa1, fb1, rfl, ha1, hb1⟩ := in_pair Try.underlying24 (by kernel_rfl) (by kernel_rfl) rfl rfl Try.underlying2 Try.underlying2 (hval 1 24 v1 rfl rfl) h1
  obtain ⟨s2, rfl, _, _, hm2⟩ := Go.ChangeMaps.open_string Try.underlying9 (hval 2 9 v2 rfl rfl) h2
  have hcall : Calls Try.prog 5 #[.slice D0 hs0.length c0, .agg #[.int .i64 fa1, .int .i64 fb1], .string s2] W fun e W' => e = .returned (.bool true) ∧ Below W.heap.size W W' := by
    by_cases hq2 : s2.size ≤ 1048576
    case neg => exact lawFindCards_big0 D0 c0 hs0 fa1 fb1 s2 W r0  hq2 hm2
    by_cases s0 : (hs0.length + tot hs0) ≤ 1048576
    case neg => exact lawFindCards_no0 D0 c0 hs0 fa1 fb1 s2 W r0 hq2  s0 ⟨by omega, fun h hh => Nat.le_trans (r0.cap h hh) (hz0 h hh).1⟩
    exact lawFindCards_yes D0 c0 hs0 fa1 fb1 s2 W r0 hq2 s0
  refine hcall.mono fun e W' ⟨he, hb⟩ => ⟨_, he, ?_⟩
  exact post_law (f := Try.f5) (s := Rows.fnExactFindCardsSpec) hW0 rfl (tb := 4) rfl Try.underlying4 rfl lawLaid (by kernel_rfl) hb

theorem fnExactFindCards_holds : Rows.FnExactFindCardsSaid :=
  OpenClaim.holds_of_wide 5 Try.f5 rfl rfl rfl rfl rfl rfl rfl ⟨rfl, rfl, rfl, rfl, rfl⟩ rfl rfl rfl rfl rfl (by kernel_rfl) Try.func5 (by kernel_rfl)
    (of_decide_eq_true (by kernel_rfl)) (by unfold Func.isWrapper; first | (rw [if_pos (by decide +kernel)]; kernel_rfl) | (rw [if_neg (by decide +kernel)]; exact ⟨rfl, rfl⟩))
    (fun os started H enc _ => lawFindCards_lifted os started H enc)
#print axioms fnExactFindCards_holds
end Go.Proofs.Ytabdlbaonjhnnaa
