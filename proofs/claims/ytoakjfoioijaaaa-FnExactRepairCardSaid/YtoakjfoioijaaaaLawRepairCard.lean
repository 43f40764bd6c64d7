/- The law FnExactRepairCard answers true at every input, and its arguments stay as they were; conditions: none. -/
import Derived.Test.YtoakjfoioijaaaaRows
import Derived.Test.YtoakjfoioijaaaaOpen
import Derived.Test.YtoakjfoioijaaaaLawBase
import Derived.Deep.RegionHeld3
import Derived.Deep.DeepCutAuto
import Derived.Test.YtoakjfoioijaaaaRepairSpec
import Derived.Test.YtoakjfoioijaaaaHarnCard
namespace Go.Proofs.Ytoakjfoioijaaaa
open Go.RowKit Go.ChangeShapes Go.WideShapes Go.ChangeAt

set_option maxRecDepth 100000 in
theorem lawRepairCard_no0 (A0 : Option Addr) (c0 : Nat) (xs0 : List Int) (w : World) (_r0 : Rd w w.heap.size 1 A0 xs0.length (ints xs0)) (hn : ¬ xs0.length ≤ 1048576) (hm : xs0.length ≤ maxLen) :
    Calls Try.prog 4 #[.agg #[.slice A0 xs0.length c0]] w fun e w' => e = .returned (.bool true) ∧ Below w.heap.size w w' := by
  go_enter Try.func4, Try.ntmps4
  have T0 : Below w.heap.size w (w.alloc (.cells #[.slice A0 xs0.length c0] 24)) := ba (b0 w) _
  have kb0_0 : World.cell? (w.alloc (.cells #[.slice A0 xs0.length c0] 24)) ⟨w.heap.size, 0, none⟩ = some (.slice A0 xs0.length c0) := by simp
  go_wp2_with fail
  refine (szCard_no _ _ _ _ _ (by omega) (by omega) hm (by omega)).mono ?_; rintro e w1 ⟨rfl, hb1⟩
  have T1 := bs T0 hb1
  go_wp2
  go_ret
  exact ⟨rfl, T1⟩

set_option maxRecDepth 100000 in
set_option maxHeartbeats 8000000 in
theorem lawRepairCard_yes (A0 : Option Addr) (c0 : Nat) (xs0 : List Int) (w : World) (r0 : Rd w w.heap.size 1 A0 xs0.length (ints xs0)) (hl : xs0.length ≤ 1048576) :
    Calls Try.prog 4 #[.agg #[.slice A0 xs0.length c0]] w fun e w' => e = .returned (.bool true) ∧ Below w.heap.size w w' := by
  have hr0 : (rcL xs0).length ≤ 1048576 := by have := rcL_length xs0; omega
  go_enter Try.func4, Try.ntmps4
  have T0 : Below w.heap.size w (w.alloc (.cells #[.slice A0 xs0.length c0] 24)) := ba (b0 w) _
  have zt0 := T0.size
  have kb0_0 : World.cell? (w.alloc (.cells #[.slice A0 xs0.length c0] 24)) ⟨w.heap.size, 0, none⟩ = some (.slice A0 xs0.length c0) := by simp
  replace r0 := r0.below T0
  go_wp2_with fail
  refine (szCard_yes _ _ _ _ _ (by omega) (by omega)).mono ?_; rintro e w1 ⟨rfl, hb1⟩
  have T1 := bs T0 hb1
  have z1 := hb1.size
  simp only [World.size_alloc] at z1
  replace r0 := r0.bs zt0 hb1
  replace kb0_0 := cell_later hb1 kb0_0
  have zt1 := T1.size
  clear T0 zt0 hb1
  go_wp2_with fail
  refine (toCard_any _ _ _ _ (r0.more zt1) (by omega)).mono ?_; rintro e w2 ⟨g2, rfl, ho2, hb2⟩
  have T2 := bs T1 hb2
  have z2 := hb2.size
  replace r0 := r0.bs zt1 hb2
  replace kb0_0 := cell_later hb2 kb0_0
  have zt2 := T2.size
  clear T1 zt1 hb2
  have o_t1 := Ob.of ho2
  clear ho2
  go_wp2_with fail
  refine (spRepairCard_any (some ⟨g2, 0, none⟩) _ (xs0) _ o_t1.rd (by omega) (by omega) ).mono ?_; rintro e w3 ⟨Aw0, cw0, rfl, how0, hb3⟩
  have T3 := bs T2 hb3
  have z3 := hb3.size
  replace r0 := r0.bs zt2 hb3
  replace o_t1 := o_t1.bs hb3
  replace kb0_0 := cell_later hb3 kb0_0
  have zt3 := T3.size
  clear T2 zt2 hb3
  have o_w0 := Ob.of how0
  clear how0
  clear o_t1
  replace r0 := r0.alloc zt3 (.cells #[.slice Aw0 (rcL xs0).length cw0] 28)
  replace T3 := ba T3 (.cells #[.slice Aw0 (rcL xs0).length cw0] 28)
  replace o_w0 := o_w0.alloc (.cells #[.slice Aw0 (rcL xs0).length cw0] 28)
  replace kb0_0 := cell_alloc kb0_0 (.cells #[.slice Aw0 (rcL xs0).length cw0] 28)
  have kx_w0 : World.cell? (w3.alloc (.cells #[.slice Aw0 (rcL xs0).length cw0] 28)) ⟨w3.heap.size, 0, none⟩ = some (.slice Aw0 (rcL xs0).length cw0) := by simp
  replace zt3 := T3.size
  have zb_w0 : (World.heap (w3.alloc (.cells #[.slice Aw0 (rcL xs0).length cw0] 28))).size = w3.heap.size + 1 := by simp
  go_wp2_with fail
  refine (toCard_any _ _ _ _ (r0.more zt3) (by omega)).mono ?_; rintro e w4 ⟨g4, rfl, ho4, hb4⟩
  have T4 := bs T3 hb4
  have z4 := hb4.size
  simp only [World.size_alloc] at z4
  replace r0 := r0.bs zt3 hb4
  replace o_w0 := o_w0.bs hb4
  replace kb0_0 := cell_later hb4 kb0_0
  replace kx_w0 := cell_later hb4 kx_w0
  have zt4 := T4.size
  clear T3 zt3 hb4
  have o_t2 := Ob.of ho4
  clear ho4
  have o_x0 := o_t2
  clear o_t2
  replace r0 := r0.alloc zt4 (.cells #[.slice (some ⟨g4, 0, none⟩) xs0.length xs0.length] 28)
  replace T4 := ba T4 (.cells #[.slice (some ⟨g4, 0, none⟩) xs0.length xs0.length] 28)
  replace o_w0 := o_w0.alloc (.cells #[.slice (some ⟨g4, 0, none⟩) xs0.length xs0.length] 28)
  replace o_x0 := o_x0.alloc (.cells #[.slice (some ⟨g4, 0, none⟩) xs0.length xs0.length] 28)
  replace kb0_0 := cell_alloc kb0_0 (.cells #[.slice (some ⟨g4, 0, none⟩) xs0.length xs0.length] 28)
  replace kx_w0 := cell_alloc kx_w0 (.cells #[.slice (some ⟨g4, 0, none⟩) xs0.length xs0.length] 28)
  have kx_x0 : World.cell? (w4.alloc (.cells #[.slice (some ⟨g4, 0, none⟩) xs0.length xs0.length] 28)) ⟨w4.heap.size, 0, none⟩ = some (.slice (some ⟨g4, 0, none⟩) xs0.length xs0.length) := by simp
  replace zt4 := T4.size
  have zb_x0 : (World.heap (w4.alloc (.cells #[.slice (some ⟨g4, 0, none⟩) xs0.length xs0.length] 28))).size = w4.heap.size + 1 := by simp
  go_wp2_with fail
  refine (RepairCard_any (some ⟨g4, 0, none⟩) _ (xs0) _ o_x0.rd (by omega) (by omega) ).mono ?_; rintro e w5 ⟨Ag0, cg0, rfl, hog0, hb5⟩
  have T5 := bs T4 hb5
  have z5 := hb5.size
  simp only [World.size_alloc] at z5
  replace r0 := r0.bs zt4 hb5
  replace o_w0 := o_w0.bs hb5
  replace o_x0 := o_x0.bs hb5
  replace kb0_0 := cell_later hb5 kb0_0
  replace kx_w0 := cell_later hb5 kx_w0
  replace kx_x0 := cell_later hb5 kx_x0
  have zt5 := T5.size
  clear T4 zt4 hb5
  have o_g0 := Ob.of hog0
  clear hog0
  replace r0 := r0.alloc zt5 (.cells #[.slice Ag0 (rcL xs0).length cg0] 28)
  replace T5 := ba T5 (.cells #[.slice Ag0 (rcL xs0).length cg0] 28)
  replace o_w0 := o_w0.alloc (.cells #[.slice Ag0 (rcL xs0).length cg0] 28)
  replace o_x0 := o_x0.alloc (.cells #[.slice Ag0 (rcL xs0).length cg0] 28)
  replace o_g0 := o_g0.alloc (.cells #[.slice Ag0 (rcL xs0).length cg0] 28)
  replace kb0_0 := cell_alloc kb0_0 (.cells #[.slice Ag0 (rcL xs0).length cg0] 28)
  replace kx_w0 := cell_alloc kx_w0 (.cells #[.slice Ag0 (rcL xs0).length cg0] 28)
  replace kx_x0 := cell_alloc kx_x0 (.cells #[.slice Ag0 (rcL xs0).length cg0] 28)
  have kx_g0 : World.cell? (w5.alloc (.cells #[.slice Ag0 (rcL xs0).length cg0] 28)) ⟨w5.heap.size, 0, none⟩ = some (.slice Ag0 (rcL xs0).length cg0) := by simp
  replace zt5 := T5.size
  have zb_g0 : (World.heap (w5.alloc (.cells #[.slice Ag0 (rcL xs0).length cg0] 28))).size = w5.heap.size + 1 := by simp
  go_wp2_with fail
  refine (eqCard_same _ _ _ _ (rcL xs0) _ o_g0.rd o_w0.rd (by omega)).mono ?_; rintro e w6 ⟨rfl, hb6⟩
  have T6 := bs T5 hb6
  have z6 := hb6.size
  simp only [World.size_alloc] at z6
  replace r0 := r0.bs zt5 hb6
  replace o_w0 := o_w0.bs hb6
  replace o_x0 := o_x0.bs hb6
  replace o_g0 := o_g0.bs hb6
  replace kb0_0 := cell_later hb6 kb0_0
  replace kx_w0 := cell_later hb6 kx_w0
  replace kx_x0 := cell_later hb6 kx_x0
  replace kx_g0 := cell_later hb6 kx_g0
  have zt6 := T6.size
  clear T5 zt5 hb6
  go_wp2_with fail
  go_region_held3 (fun w' => w'.cell? ⟨w.heap.size, 0, none⟩ = some (.slice A0 xs0.length c0) ∧ w'.cell? ⟨w3.heap.size, 0, none⟩ = some (.slice Aw0 (rcL xs0).length cw0) ∧ w'.cell? ⟨w4.heap.size, 0, none⟩ = some (.slice (some ⟨g4, 0, none⟩) xs0.length xs0.length) ∧ w'.cell? ⟨w5.heap.size, 0, none⟩ = some (.slice Ag0 (rcL xs0).length cg0)) (first | exact ⟨kb0_0, kx_w0, kx_x0, kx_g0⟩ | go_keep)
    (first
      | (go_at_call 17; refine (toCard_any _ _ _ _ ?_ ?_).mono ?_; (first | exact (r0.more zt6) | exact ((r0.more zt6)).drew); (omega); rintro e w7 ⟨g7, rfl, ho7, hb7⟩; have hb7 : Below w6.heap.size w6 w7 := ⟨hb7.os, hb7.tape, hb7.output, hb7.size, hb7.block⟩; have ho7 : World.ownsRow w7 w6.heap.size _ _ _ _ _ := ho7; have T7 := bs T6 hb7; have z7 := hb7.size; replace r0 := r0.bs zt6 hb7; replace o_w0 := o_w0.bs hb7; replace o_x0 := o_x0.bs hb7; replace o_g0 := o_g0.bs hb7; replace kb0_0 := cell_later hb7 kb0_0; replace kx_w0 := cell_later hb7 kx_w0; replace kx_x0 := cell_later hb7 kx_x0; replace kx_g0 := cell_later hb7 kx_g0; have zt7 := T7.size; clear T6 zt6 hb7; have o_t3 := Ob.of ho7; clear ho7)
      | (go_at_call 20; refine (eqCard_same _ _ _ _ (xs0) _ ?_ ?_ ?_).mono ?_; (first | exact o_x0.rd | exact (o_x0.rd).drew); (first | exact o_t3.rd | exact (o_t3.rd).drew); (omega); rintro e w8 ⟨rfl, hb8⟩; have hb8 : Below w7.heap.size w7 w8 := ⟨hb8.os, hb8.tape, hb8.output, hb8.size, hb8.block⟩; have T8 := bs T7 hb8; have z8 := hb8.size; replace r0 := r0.bs zt7 hb8; replace o_w0 := o_w0.bs hb8; replace o_x0 := o_x0.bs hb8; replace o_g0 := o_g0.bs hb8; replace o_t3 := o_t3.bs hb8; replace kb0_0 := cell_later hb8 kb0_0; replace kx_w0 := cell_later hb8 kx_w0; replace kx_x0 := cell_later hb8 kx_x0; replace kx_g0 := cell_later hb8 kx_g0; have zt8 := T8.size; clear T7 zt7 hb8)
    )
  clear o_t3
  go_wp2_with fail
  refine (markCard_any _ _ _ _ _ _ _ o_x0.1 (by omega) (by omega) (by omega)).mono ?_; rintro e w9 ⟨rfl, ho9, hg9⟩
  have cg9 := o_x0.turns hg9
  have z9 := cg9.size
  have T9 := cg9.below T8 (by omega) zt8
  replace r0 := cg9.rd r0 (by omega) zt8
  replace o_w0 := o_w0.chg cg9 (by omega)
  replace o_g0 := o_g0.chg cg9 (by omega)
  replace o_x0 := o_x0.marked ho9
  replace kb0_0 := cg9.cell kb0_0 (by omega)
  replace kx_w0 := cg9.cell kx_w0 (by omega)
  replace kx_x0 := cg9.cell kx_x0 (by omega)
  replace kx_g0 := cg9.cell kx_g0 (by omega)
  clear cg9 hg9 ho9
  have zt9 := T9.size
  clear T8 zt8
  go_wp2_with fail
  refine (eqCard_same _ _ _ _ (rcL xs0) _ o_g0.rd o_w0.rd (by omega)).mono ?_; rintro e w10 ⟨rfl, hb10⟩
  have T10 := bs T9 hb10
  have z10 := hb10.size
  replace r0 := r0.bs zt9 hb10
  replace o_w0 := o_w0.bs hb10
  replace o_x0 := o_x0.bs hb10
  replace o_g0 := o_g0.bs hb10
  replace kb0_0 := cell_later hb10 kb0_0
  replace kx_w0 := cell_later hb10 kx_w0
  replace kx_x0 := cell_later hb10 kx_x0
  replace kx_g0 := cell_later hb10 kx_g0
  have zt10 := T10.size
  clear T9 zt9 hb10
  go_wp2_with fail
  refine (markCard_any _ _ _ _ _ _ _ o_g0.1 (by omega) (by omega) (by omega)).mono ?_; rintro e w11 ⟨rfl, ho11, hg11⟩
  have cg11 := o_g0.turns hg11
  have z11 := cg11.size
  have T11 := cg11.below T10 (by omega) zt10
  replace r0 := cg11.rd r0 (by omega) zt10
  replace o_w0 := o_w0.chg cg11 (by omega)
  replace o_x0 := o_x0.chg cg11 (by omega)
  replace o_g0 := o_g0.marked ho11
  replace kb0_0 := cg11.cell kb0_0 (by omega)
  replace kx_w0 := cg11.cell kx_w0 (by omega)
  replace kx_x0 := cg11.cell kx_x0 (by omega)
  replace kx_g0 := cg11.cell kx_g0 (by omega)
  clear cg11 hg11 ho11
  have zt11 := T11.size
  clear T10 zt10
  go_wp2_with fail
  refine (heldCard_any _ _ _ _ _ o_g0.rd (by omega) (by omega) (by omega)).mono ?_; rintro e w12 ⟨rfl, hb12⟩
  have T12 := bs T11 hb12
  have z12 := hb12.size
  replace r0 := r0.bs zt11 hb12
  replace o_w0 := o_w0.bs hb12
  replace o_x0 := o_x0.bs hb12
  replace o_g0 := o_g0.bs hb12
  replace kb0_0 := cell_later hb12 kb0_0
  replace kx_w0 := cell_later hb12 kx_w0
  replace kx_x0 := cell_later hb12 kx_x0
  replace kx_g0 := cell_later hb12 kx_g0
  have zt12 := T12.size
  clear T11 zt11 hb12
  go_wp2_with fail
  refine (toCard_any _ _ _ _ (r0.more zt12) (by omega)).mono ?_; rintro e w13 ⟨g13, rfl, ho13, hb13⟩
  have T13 := bs T12 hb13
  have z13 := hb13.size
  replace r0 := r0.bs zt12 hb13
  replace o_w0 := o_w0.bs hb13
  replace o_x0 := o_x0.bs hb13
  replace o_g0 := o_g0.bs hb13
  replace kb0_0 := cell_later hb13 kb0_0
  replace kx_w0 := cell_later hb13 kx_w0
  replace kx_x0 := cell_later hb13 kx_x0
  replace kx_g0 := cell_later hb13 kx_g0
  have zt13 := T13.size
  clear T12 zt12 hb13
  have o_t4 := Ob.of ho13
  clear ho13
  go_wp2_with fail
  refine (RepairCard_any (some ⟨g13, 0, none⟩) _ (xs0) _ o_t4.rd (by omega) (by omega) ).mono ?_; rintro e w14 ⟨Ah0, ch0, rfl, hoh0, hb14⟩
  have T14 := bs T13 hb14
  have z14 := hb14.size
  replace r0 := r0.bs zt13 hb14
  replace o_w0 := o_w0.bs hb14
  replace o_x0 := o_x0.bs hb14
  replace o_g0 := o_g0.bs hb14
  replace o_t4 := o_t4.bs hb14
  replace kb0_0 := cell_later hb14 kb0_0
  replace kx_w0 := cell_later hb14 kx_w0
  replace kx_x0 := cell_later hb14 kx_x0
  replace kx_g0 := cell_later hb14 kx_g0
  have zt14 := T14.size
  clear T13 zt13 hb14
  have o_h0 := Ob.of hoh0
  clear hoh0
  clear o_t4
  replace r0 := r0.alloc zt14 (.cells #[.slice Ah0 (rcL xs0).length ch0] 28)
  replace T14 := ba T14 (.cells #[.slice Ah0 (rcL xs0).length ch0] 28)
  replace o_w0 := o_w0.alloc (.cells #[.slice Ah0 (rcL xs0).length ch0] 28)
  replace o_x0 := o_x0.alloc (.cells #[.slice Ah0 (rcL xs0).length ch0] 28)
  replace o_g0 := o_g0.alloc (.cells #[.slice Ah0 (rcL xs0).length ch0] 28)
  replace o_h0 := o_h0.alloc (.cells #[.slice Ah0 (rcL xs0).length ch0] 28)
  replace kb0_0 := cell_alloc kb0_0 (.cells #[.slice Ah0 (rcL xs0).length ch0] 28)
  replace kx_w0 := cell_alloc kx_w0 (.cells #[.slice Ah0 (rcL xs0).length ch0] 28)
  replace kx_x0 := cell_alloc kx_x0 (.cells #[.slice Ah0 (rcL xs0).length ch0] 28)
  replace kx_g0 := cell_alloc kx_g0 (.cells #[.slice Ah0 (rcL xs0).length ch0] 28)
  have kx_h0 : World.cell? (w14.alloc (.cells #[.slice Ah0 (rcL xs0).length ch0] 28)) ⟨w14.heap.size, 0, none⟩ = some (.slice Ah0 (rcL xs0).length ch0) := by simp
  replace zt14 := T14.size
  have zb_h0 : (World.heap (w14.alloc (.cells #[.slice Ah0 (rcL xs0).length ch0] 28))).size = w14.heap.size + 1 := by simp
  go_wp2_with fail
  refine (eqCard_same _ _ _ _ (rcL xs0) _ o_h0.rd o_w0.rd (by omega)).mono ?_; rintro e w15 ⟨rfl, hb15⟩
  have T15 := bs T14 hb15
  have z15 := hb15.size
  simp only [World.size_alloc] at z15
  replace r0 := r0.bs zt14 hb15
  replace o_w0 := o_w0.bs hb15
  replace o_x0 := o_x0.bs hb15
  replace o_g0 := o_g0.bs hb15
  replace o_h0 := o_h0.bs hb15
  replace kb0_0 := cell_later hb15 kb0_0
  replace kx_w0 := cell_later hb15 kx_w0
  replace kx_x0 := cell_later hb15 kx_x0
  replace kx_g0 := cell_later hb15 kx_g0
  replace kx_h0 := cell_later hb15 kx_h0
  have zt15 := T15.size
  clear T14 zt14 hb15
  go_wp2_with fail
  refine (heldCard_any _ _ _ _ _ o_g0.rd (by omega) (by omega) (by omega)).mono ?_; rintro e w16 ⟨rfl, hb16⟩
  have T16 := bs T15 hb16
  have z16 := hb16.size
  replace r0 := r0.bs zt15 hb16
  replace o_w0 := o_w0.bs hb16
  replace o_x0 := o_x0.bs hb16
  replace o_g0 := o_g0.bs hb16
  replace o_h0 := o_h0.bs hb16
  replace kb0_0 := cell_later hb16 kb0_0
  replace kx_w0 := cell_later hb16 kx_w0
  replace kx_x0 := cell_later hb16 kx_x0
  replace kx_g0 := cell_later hb16 kx_g0
  replace kx_h0 := cell_later hb16 kx_h0
  have zt16 := T16.size
  clear T15 zt15 hb16
  go_wp2
  go_ret
  exact ⟨rfl, T16⟩

set_option maxRecDepth 100000 in
theorem lawRepairCard_lifted (os : Os) (started : os.Started) (H : Type) (enc : TypeId × Value → H) :
    ReturnsInHanded {} Try.checked os 4 .any (Rows.fnExactRepairCardSpec.pre6 enc Try.prog Try.f4 Rows.fnExactRepairCardRow.domain false) (Rows.fnExactRepairCardSpec.post enc Try.prog Try.f4 false true false false) := by
  refine returnsInHanded_of_change (C := Try.checked) lawOwn started (by kernel_rfl) Try.func4
    (ChangeSpec.witness6 (enc := enc) (C := Try.checked) false ⟨#[], #[.agg #[.slice none 0 0]], []⟩ 8 (by kernel_rfl) (by kernel_rfl) (by kernel_rfl) (by kernel_rfl)) ?_
  intro W base args ds gs before hval0 hW _ _
  have hval : ∀ (j : Nat) t v, Try.f4.params[j]? = some t → args[j]? = some v → Value.okWide Try.prog W .any base t v := hval0
  clear hval0
  have hW0 : DataW.Whole enc Try.prog Try.f4.params.toList Rows.fnExactRepairCardSpec.vars false W args.toList ds gs before := hW
  clear hW
  have hW := hW0
  obtain ⟨p, q, hA, hV, _, _, _⟩ := hW
  rw [Try.params4] at hA hval
  obtain ⟨v0, vs0, d0, ds0, p0, q0, hargs, rfl, rfl, h0, hA0⟩ := trodAll_cons hA
  obtain ⟨rfl, rfl, rfl⟩ := trodAll_nil hA0
  have hargs2 : args = #[v0] := by cases args; simp_all
  clear hargs
  subst hargs2
  obtain ⟨A0, c0, xs0, rfl, hc0, hm0, r0, hz0⟩ := in_card Try.underlying24 (by kernel_rfl) (by kernel_rfl) rfl Try.underlying22 Try.underlying2 (by kernel_rfl) (hval 0 24 v0 rfl rfl) h0
  have hcall : Calls Try.prog 4 #[.agg #[.slice A0 xs0.length c0]] W fun e W' => e = .returned (.bool true) ∧ Below W.heap.size W W' := by
    by_cases s0 : xs0.length ≤ 1048576
    case neg => exact lawRepairCard_no0 A0 c0 xs0 W r0  s0 (by omega)
    exact lawRepairCard_yes A0 c0 xs0 W r0 s0
  refine hcall.mono fun e W' ⟨he, hb⟩ => ⟨_, he, ?_⟩
  exact post_law (f := Try.f4) (s := Rows.fnExactRepairCardSpec) hW0 rfl (tb := 4) rfl Try.underlying4 rfl lawLaid (by kernel_rfl) hb

theorem fnExactRepairCard_holds : Rows.FnExactRepairCardSaid :=
  OpenClaim.holds_of_wide 4 Try.f4 rfl rfl rfl rfl rfl rfl rfl ⟨rfl, rfl, rfl, rfl, rfl⟩ rfl rfl rfl rfl rfl (by kernel_rfl) Try.func4 (by kernel_rfl)
    (of_decide_eq_true (by kernel_rfl)) (by unfold Func.isWrapper; first | (rw [if_pos (by decide +kernel)]; kernel_rfl) | (rw [if_neg (by decide +kernel)]; exact ⟨rfl, rfl⟩))
    (fun os started H enc _ => lawRepairCard_lifted os started H enc)
#print axioms fnExactRepairCard_holds
end Go.Proofs.Ytoakjfoioijaaaa
