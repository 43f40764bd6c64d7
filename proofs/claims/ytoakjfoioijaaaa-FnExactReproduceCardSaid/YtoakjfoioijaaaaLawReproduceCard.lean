/- The law FnExactReproduceCard answers true at every input, and its arguments stay as they were; conditions: none. -/
import Derived.Test.YtoakjfoioijaaaaRows
import Derived.Test.YtoakjfoioijaaaaOpen
import Derived.Test.YtoakjfoioijaaaaLawBase
import Derived.Deep.RegionHeld3
import Derived.Deep.DeepCutAuto
import Derived.Test.YtoakjfoioijaaaaReproduce
import Derived.Test.YtoakjfoioijaaaaHarnCard
import Derived.Test.YtoakjfoioijaaaaHarnCopy
namespace Go.Proofs.Ytoakjfoioijaaaa
open Go.RowKit Go.ChangeShapes Go.WideShapes Go.ChangeAt

set_option maxRecDepth 100000 in
theorem lawReproduceCard_no0 (A0 : Option Addr) (c0 : Nat) (xs0 : List Int) (A1 : Option Addr) (c1 : Nat) (ps1 : List (Int × Int)) (n2 : Int) (w : World) (_r0 : Rd w w.heap.size 1 A0 xs0.length (ints xs0)) (_r1 : Rd w w.heap.size 2 A1 ps1.length (prs ps1)) (_hi2 : I64 n2) (hn : ¬ xs0.length ≤ 1048576) (hm : xs0.length ≤ maxLen) :
    Calls Try.prog 3 #[.agg #[.slice A0 xs0.length c0], .slice A1 ps1.length c1, .int .i64 n2] w fun e w' => e = .returned (.bool true) ∧ Below w.heap.size w w' := by
  go_enter Try.func3, Try.ntmps3
  have T0 : Below w.heap.size w (w.alloc (.cells #[.slice A0 xs0.length c0] 24)) := ba (b0 w) _
  have kb0_0 : World.cell? (w.alloc (.cells #[.slice A0 xs0.length c0] 24)) ⟨w.heap.size, 0, none⟩ = some (.slice A0 xs0.length c0) := by simp
  go_wp2_with fail
  refine (szCard_no _ _ _ _ _ (by omega) (by omega) hm (by omega)).mono ?_; rintro e w1 ⟨rfl, hb1⟩
  have T1 := bs T0 hb1
  go_wp2
  go_ret
  exact ⟨rfl, T1⟩

set_option maxRecDepth 100000 in
theorem lawReproduceCard_no1 (A0 : Option Addr) (c0 : Nat) (xs0 : List Int) (A1 : Option Addr) (c1 : Nat) (ps1 : List (Int × Int)) (n2 : Int) (w : World) (_r0 : Rd w w.heap.size 1 A0 xs0.length (ints xs0)) (_r1 : Rd w w.heap.size 2 A1 ps1.length (prs ps1)) (_hi2 : I64 n2) (hl : xs0.length ≤ 1048576) (hn : ¬ xs0.length + ps1.length ≤ 1048576) (hm : ps1.length ≤ maxLen) :
    Calls Try.prog 3 #[.agg #[.slice A0 xs0.length c0], .slice A1 ps1.length c1, .int .i64 n2] w fun e w' => e = .returned (.bool true) ∧ Below w.heap.size w w' := by
  go_enter Try.func3, Try.ntmps3
  have T0 : Below w.heap.size w (w.alloc (.cells #[.slice A0 xs0.length c0] 24)) := ba (b0 w) _
  have kb0_0 : World.cell? (w.alloc (.cells #[.slice A0 xs0.length c0] 24)) ⟨w.heap.size, 0, none⟩ = some (.slice A0 xs0.length c0) := by simp
  go_wp2_with fail
  refine (szCard_yes _ _ _ _ _ (by omega) (by omega)).mono ?_; rintro e w1 ⟨rfl, hb1⟩
  have T1 := bs T0 hb1
  replace kb0_0 := cell_later hb1 kb0_0
  go_wp2_with fail
  refine (szCopyS_no_L _ _ _ _ _ (by omega) (by omega) hm (by omega)).mono ?_; rintro e w2 ⟨rfl, hb2⟩
  have T2 := bs T1 hb2
  go_wp2
  go_ret
  exact ⟨rfl, T2⟩

set_option maxRecDepth 100000 in
set_option maxHeartbeats 8000000 in
theorem lawReproduceCard_yes (A0 : Option Addr) (c0 : Nat) (xs0 : List Int) (A1 : Option Addr) (c1 : Nat) (ps1 : List (Int × Int)) (n2 : Int) (w : World) (r0 : Rd w w.heap.size 1 A0 xs0.length (ints xs0)) (r1 : Rd w w.heap.size 2 A1 ps1.length (prs ps1)) (hi2 : I64 n2) (hl : xs0.length + ps1.length ≤ 1048576) :
    Calls Try.prog 3 #[.agg #[.slice A0 xs0.length c0], .slice A1 ps1.length c1, .int .i64 n2] w fun e w' => e = .returned (.bool true) ∧ Below w.heap.size w w' := by
  have hr0 : (rpdR xs0 ps1 n2).length ≤ 1048576 := by have := rpdR_length xs0 ps1 n2; omega
  go_enter Try.func3, Try.ntmps3
  have T0 : Below w.heap.size w (w.alloc (.cells #[.slice A0 xs0.length c0] 24)) := ba (b0 w) _
  have zt0 := T0.size
  have kb0_0 : World.cell? (w.alloc (.cells #[.slice A0 xs0.length c0] 24)) ⟨w.heap.size, 0, none⟩ = some (.slice A0 xs0.length c0) := by simp
  replace r0 := r0.below T0
  replace r1 := r1.below T0
  go_wp2_with fail
  refine (szCard_yes _ _ _ _ _ (by omega) (by omega)).mono ?_; rintro e w1 ⟨rfl, hb1⟩
  have T1 := bs T0 hb1
  have z1 := hb1.size
  simp only [World.size_alloc] at z1
  replace r0 := r0.bs zt0 hb1
  replace r1 := r1.bs zt0 hb1
  replace kb0_0 := cell_later hb1 kb0_0
  have zt1 := T1.size
  clear T0 zt0 hb1
  go_wp2_with fail
  refine (szCopyS_yes_L _ _ _ _ _ (by omega) (by omega)).mono ?_; rintro e w2 ⟨rfl, hb2⟩
  have T2 := bs T1 hb2
  have z2 := hb2.size
  replace r0 := r0.bs zt1 hb2
  replace r1 := r1.bs zt1 hb2
  replace kb0_0 := cell_later hb2 kb0_0
  have zt2 := T2.size
  clear T1 zt1 hb2
  go_wp2_with fail
  refine (toCard_any _ _ _ _ (r0.more zt2) (by omega)).mono ?_; rintro e w3 ⟨g3, rfl, ho3, hb3⟩
  have T3 := bs T2 hb3
  have z3 := hb3.size
  replace r0 := r0.bs zt2 hb3
  replace r1 := r1.bs zt2 hb3
  replace kb0_0 := cell_later hb3 kb0_0
  have zt3 := T3.size
  clear T2 zt2 hb3
  have o_t1 := Ob.of ho3
  clear ho3
  go_wp2_with fail
  refine (toCopyS_any _ _ _ _ (r1.more zt3) (by omega)).mono ?_; rintro e w4 ⟨g4, rfl, ho4, hb4⟩
  have T4 := bs T3 hb4
  have z4 := hb4.size
  replace r0 := r0.bs zt3 hb4
  replace r1 := r1.bs zt3 hb4
  replace o_t1 := o_t1.bs hb4
  replace kb0_0 := cell_later hb4 kb0_0
  have zt4 := T4.size
  clear T3 zt3 hb4
  have o_t2 := Ob.of ho4
  clear ho4
  go_wp2_with fail
  refine (spReproduceCard_any (some ⟨g3, 0, none⟩) _ (xs0) (some ⟨g4, 0, none⟩) _ (ps1) n2 _ o_t1.rd (by omega) (by omega) o_t2.rd (by omega) ).mono ?_; rintro e w5 ⟨Aw0, cw0, rfl, how0, hb5⟩
  have T5 := bs T4 hb5
  have z5 := hb5.size
  replace r0 := r0.bs zt4 hb5
  replace r1 := r1.bs zt4 hb5
  replace o_t1 := o_t1.bs hb5
  replace o_t2 := o_t2.bs hb5
  replace kb0_0 := cell_later hb5 kb0_0
  have zt5 := T5.size
  clear T4 zt4 hb5
  have o_w0 := Ob.of how0
  clear how0
  clear o_t1
  clear o_t2
  replace r0 := r0.alloc zt5 (.cells #[.slice Aw0 (rpdR xs0 ps1 n2).length cw0] 28)
  replace r1 := r1.alloc zt5 (.cells #[.slice Aw0 (rpdR xs0 ps1 n2).length cw0] 28)
  replace T5 := ba T5 (.cells #[.slice Aw0 (rpdR xs0 ps1 n2).length cw0] 28)
  replace o_w0 := o_w0.alloc (.cells #[.slice Aw0 (rpdR xs0 ps1 n2).length cw0] 28)
  replace kb0_0 := cell_alloc kb0_0 (.cells #[.slice Aw0 (rpdR xs0 ps1 n2).length cw0] 28)
  have kx_w0 : World.cell? (w5.alloc (.cells #[.slice Aw0 (rpdR xs0 ps1 n2).length cw0] 28)) ⟨w5.heap.size, 0, none⟩ = some (.slice Aw0 (rpdR xs0 ps1 n2).length cw0) := by simp
  replace zt5 := T5.size
  have zb_w0 : (World.heap (w5.alloc (.cells #[.slice Aw0 (rpdR xs0 ps1 n2).length cw0] 28))).size = w5.heap.size + 1 := by simp
  go_wp2_with fail
  refine (toCard_any _ _ _ _ (r0.more zt5) (by omega)).mono ?_; rintro e w6 ⟨g6, rfl, ho6, hb6⟩
  have T6 := bs T5 hb6
  have z6 := hb6.size
  simp only [World.size_alloc] at z6
  replace r0 := r0.bs zt5 hb6
  replace r1 := r1.bs zt5 hb6
  replace o_w0 := o_w0.bs hb6
  replace kb0_0 := cell_later hb6 kb0_0
  replace kx_w0 := cell_later hb6 kx_w0
  have zt6 := T6.size
  clear T5 zt5 hb6
  have o_t3 := Ob.of ho6
  clear ho6
  have o_x0 := o_t3
  clear o_t3
  replace r0 := r0.alloc zt6 (.cells #[.slice (some ⟨g6, 0, none⟩) xs0.length xs0.length] 28)
  replace r1 := r1.alloc zt6 (.cells #[.slice (some ⟨g6, 0, none⟩) xs0.length xs0.length] 28)
  replace T6 := ba T6 (.cells #[.slice (some ⟨g6, 0, none⟩) xs0.length xs0.length] 28)
  replace o_w0 := o_w0.alloc (.cells #[.slice (some ⟨g6, 0, none⟩) xs0.length xs0.length] 28)
  replace o_x0 := o_x0.alloc (.cells #[.slice (some ⟨g6, 0, none⟩) xs0.length xs0.length] 28)
  replace kb0_0 := cell_alloc kb0_0 (.cells #[.slice (some ⟨g6, 0, none⟩) xs0.length xs0.length] 28)
  replace kx_w0 := cell_alloc kx_w0 (.cells #[.slice (some ⟨g6, 0, none⟩) xs0.length xs0.length] 28)
  have kx_x0 : World.cell? (w6.alloc (.cells #[.slice (some ⟨g6, 0, none⟩) xs0.length xs0.length] 28)) ⟨w6.heap.size, 0, none⟩ = some (.slice (some ⟨g6, 0, none⟩) xs0.length xs0.length) := by simp
  replace zt6 := T6.size
  have zb_x0 : (World.heap (w6.alloc (.cells #[.slice (some ⟨g6, 0, none⟩) xs0.length xs0.length] 28))).size = w6.heap.size + 1 := by simp
  go_wp2_with fail
  refine (toCopyS_any _ _ _ _ (r1.more zt6) (by omega)).mono ?_; rintro e w7 ⟨g7, rfl, ho7, hb7⟩
  have T7 := bs T6 hb7
  have z7 := hb7.size
  simp only [World.size_alloc] at z7
  replace r0 := r0.bs zt6 hb7
  replace r1 := r1.bs zt6 hb7
  replace o_w0 := o_w0.bs hb7
  replace o_x0 := o_x0.bs hb7
  replace kb0_0 := cell_later hb7 kb0_0
  replace kx_w0 := cell_later hb7 kx_w0
  replace kx_x0 := cell_later hb7 kx_x0
  have zt7 := T7.size
  clear T6 zt6 hb7
  have o_t4 := Ob.of ho7
  clear ho7
  have o_x1 := o_t4
  clear o_t4
  go_wp2_with fail
  refine (ReproduceCard_any (some ⟨g6, 0, none⟩) _ (xs0) (some ⟨g7, 0, none⟩) _ (ps1) n2 _ o_x0.rd (by omega) (by omega) o_x1.rd (by omega) ).mono ?_; rintro e w8 ⟨Ag0, cg0, rfl, hog0, hb8⟩
  have T8 := bs T7 hb8
  have z8 := hb8.size
  replace r0 := r0.bs zt7 hb8
  replace r1 := r1.bs zt7 hb8
  replace o_w0 := o_w0.bs hb8
  replace o_x0 := o_x0.bs hb8
  replace o_x1 := o_x1.bs hb8
  replace kb0_0 := cell_later hb8 kb0_0
  replace kx_w0 := cell_later hb8 kx_w0
  replace kx_x0 := cell_later hb8 kx_x0
  have zt8 := T8.size
  clear T7 zt7 hb8
  have o_g0 := Ob.of hog0
  clear hog0
  replace r0 := r0.alloc zt8 (.cells #[.slice Ag0 (rpdR xs0 ps1 n2).length cg0] 28)
  replace r1 := r1.alloc zt8 (.cells #[.slice Ag0 (rpdR xs0 ps1 n2).length cg0] 28)
  replace T8 := ba T8 (.cells #[.slice Ag0 (rpdR xs0 ps1 n2).length cg0] 28)
  replace o_w0 := o_w0.alloc (.cells #[.slice Ag0 (rpdR xs0 ps1 n2).length cg0] 28)
  replace o_x0 := o_x0.alloc (.cells #[.slice Ag0 (rpdR xs0 ps1 n2).length cg0] 28)
  replace o_x1 := o_x1.alloc (.cells #[.slice Ag0 (rpdR xs0 ps1 n2).length cg0] 28)
  replace o_g0 := o_g0.alloc (.cells #[.slice Ag0 (rpdR xs0 ps1 n2).length cg0] 28)
  replace kb0_0 := cell_alloc kb0_0 (.cells #[.slice Ag0 (rpdR xs0 ps1 n2).length cg0] 28)
  replace kx_w0 := cell_alloc kx_w0 (.cells #[.slice Ag0 (rpdR xs0 ps1 n2).length cg0] 28)
  replace kx_x0 := cell_alloc kx_x0 (.cells #[.slice Ag0 (rpdR xs0 ps1 n2).length cg0] 28)
  have kx_g0 : World.cell? (w8.alloc (.cells #[.slice Ag0 (rpdR xs0 ps1 n2).length cg0] 28)) ⟨w8.heap.size, 0, none⟩ = some (.slice Ag0 (rpdR xs0 ps1 n2).length cg0) := by simp
  replace zt8 := T8.size
  have zb_g0 : (World.heap (w8.alloc (.cells #[.slice Ag0 (rpdR xs0 ps1 n2).length cg0] 28))).size = w8.heap.size + 1 := by simp
  go_wp2_with fail
  refine (eqCard_same _ _ _ _ (rpdR xs0 ps1 n2) _ o_g0.rd o_w0.rd (by omega)).mono ?_; rintro e w9 ⟨rfl, hb9⟩
  have T9 := bs T8 hb9
  have z9 := hb9.size
  simp only [World.size_alloc] at z9
  replace r0 := r0.bs zt8 hb9
  replace r1 := r1.bs zt8 hb9
  replace o_w0 := o_w0.bs hb9
  replace o_x0 := o_x0.bs hb9
  replace o_x1 := o_x1.bs hb9
  replace o_g0 := o_g0.bs hb9
  replace kb0_0 := cell_later hb9 kb0_0
  replace kx_w0 := cell_later hb9 kx_w0
  replace kx_x0 := cell_later hb9 kx_x0
  replace kx_g0 := cell_later hb9 kx_g0
  have zt9 := T9.size
  clear T8 zt8 hb9
  go_wp2_with fail
  go_region_held3 (fun w' => w'.cell? ⟨w.heap.size, 0, none⟩ = some (.slice A0 xs0.length c0) ∧ w'.cell? ⟨w5.heap.size, 0, none⟩ = some (.slice Aw0 (rpdR xs0 ps1 n2).length cw0) ∧ w'.cell? ⟨w6.heap.size, 0, none⟩ = some (.slice (some ⟨g6, 0, none⟩) xs0.length xs0.length) ∧ w'.cell? ⟨w8.heap.size, 0, none⟩ = some (.slice Ag0 (rpdR xs0 ps1 n2).length cg0)) (first | exact ⟨kb0_0, kx_w0, kx_x0, kx_g0⟩ | go_keep)
    (first
      | (go_at_call 17; refine (toCard_any _ _ _ _ ?_ ?_).mono ?_; (first | exact (r0.more zt9) | exact ((r0.more zt9)).drew); (omega); rintro e w10 ⟨g10, rfl, ho10, hb10⟩; have hb10 : Below w9.heap.size w9 w10 := ⟨hb10.os, hb10.tape, hb10.output, hb10.size, hb10.block⟩; have ho10 : World.ownsRow w10 w9.heap.size _ _ _ _ _ := ho10; have T10 := bs T9 hb10; have z10 := hb10.size; replace r0 := r0.bs zt9 hb10; replace r1 := r1.bs zt9 hb10; replace o_w0 := o_w0.bs hb10; replace o_x0 := o_x0.bs hb10; replace o_x1 := o_x1.bs hb10; replace o_g0 := o_g0.bs hb10; replace kb0_0 := cell_later hb10 kb0_0; replace kx_w0 := cell_later hb10 kx_w0; replace kx_x0 := cell_later hb10 kx_x0; replace kx_g0 := cell_later hb10 kx_g0; have zt10 := T10.size; clear T9 zt9 hb10; have o_t5 := Ob.of ho10; clear ho10)
      | (go_at_call 20; refine (eqCard_same _ _ _ _ (xs0) _ ?_ ?_ ?_).mono ?_; (first | exact o_x0.rd | exact (o_x0.rd).drew); (first | exact o_t5.rd | exact (o_t5.rd).drew); (omega); rintro e w11 ⟨rfl, hb11⟩; have hb11 : Below w10.heap.size w10 w11 := ⟨hb11.os, hb11.tape, hb11.output, hb11.size, hb11.block⟩; have T11 := bs T10 hb11; have z11 := hb11.size; replace r0 := r0.bs zt10 hb11; replace r1 := r1.bs zt10 hb11; replace o_w0 := o_w0.bs hb11; replace o_x0 := o_x0.bs hb11; replace o_x1 := o_x1.bs hb11; replace o_g0 := o_g0.bs hb11; replace o_t5 := o_t5.bs hb11; replace kb0_0 := cell_later hb11 kb0_0; replace kx_w0 := cell_later hb11 kx_w0; replace kx_x0 := cell_later hb11 kx_x0; replace kx_g0 := cell_later hb11 kx_g0; have zt11 := T11.size; clear T10 zt10 hb11)
    )
  clear o_t5
  go_wp2_with fail
  refine (toCopyS_any _ _ _ _ (r1.more zt11) (by omega)).mono ?_; rintro e w12 ⟨g12, rfl, ho12, hb12⟩
  have T12 := bs T11 hb12
  have z12 := hb12.size
  replace r0 := r0.bs zt11 hb12
  replace r1 := r1.bs zt11 hb12
  replace o_w0 := o_w0.bs hb12
  replace o_x0 := o_x0.bs hb12
  replace o_x1 := o_x1.bs hb12
  replace o_g0 := o_g0.bs hb12
  replace kb0_0 := cell_later hb12 kb0_0
  replace kx_w0 := cell_later hb12 kx_w0
  replace kx_x0 := cell_later hb12 kx_x0
  replace kx_g0 := cell_later hb12 kx_g0
  have zt12 := T12.size
  clear T11 zt11 hb12
  have o_t6 := Ob.of ho12
  clear ho12
  go_wp2_with fail
  refine (eqCopyS_same _ _ _ _ (ps1) _ o_x1.rd o_t6.rd (by omega)).mono ?_; rintro e w13 ⟨rfl, hb13⟩
  have T13 := bs T12 hb13
  have z13 := hb13.size
  replace r0 := r0.bs zt12 hb13
  replace r1 := r1.bs zt12 hb13
  replace o_w0 := o_w0.bs hb13
  replace o_x0 := o_x0.bs hb13
  replace o_x1 := o_x1.bs hb13
  replace o_g0 := o_g0.bs hb13
  replace o_t6 := o_t6.bs hb13
  replace kb0_0 := cell_later hb13 kb0_0
  replace kx_w0 := cell_later hb13 kx_w0
  replace kx_x0 := cell_later hb13 kx_x0
  replace kx_g0 := cell_later hb13 kx_g0
  have zt13 := T13.size
  clear T12 zt12 hb13
  clear o_t6
  go_wp2_with fail
  refine (markCard_any _ _ _ _ _ _ _ o_x0.1 (by omega) (by omega) (by omega)).mono ?_; rintro e w14 ⟨rfl, ho14, hg14⟩
  have cg14 := o_x0.turns hg14
  have z14 := cg14.size
  have T14 := cg14.below T13 (by omega) zt13
  replace r0 := cg14.rd r0 (by omega) zt13
  replace r1 := cg14.rd r1 (by omega) zt13
  replace o_w0 := o_w0.chg cg14 (by omega)
  replace o_x1 := o_x1.chg cg14 (by omega)
  replace o_g0 := o_g0.chg cg14 (by omega)
  replace o_x0 := o_x0.marked ho14
  replace kb0_0 := cg14.cell kb0_0 (by omega)
  replace kx_w0 := cg14.cell kx_w0 (by omega)
  replace kx_x0 := cg14.cell kx_x0 (by omega)
  replace kx_g0 := cg14.cell kx_g0 (by omega)
  clear cg14 hg14 ho14
  have zt14 := T14.size
  clear T13 zt13
  go_wp2_with fail
  refine (markCopyS_any _ _ _ _ _ _ _ o_x1.1 (by omega) (by omega) (by omega)).mono ?_; rintro e w15 ⟨rfl, ho15, hg15⟩
  have cg15 := o_x1.turns hg15
  have z15 := cg15.size
  have T15 := cg15.below T14 (by omega) zt14
  replace r0 := cg15.rd r0 (by omega) zt14
  replace r1 := cg15.rd r1 (by omega) zt14
  replace o_w0 := o_w0.chg cg15 (by omega)
  replace o_x0 := o_x0.chg cg15 (by omega)
  replace o_g0 := o_g0.chg cg15 (by omega)
  replace o_x1 := o_x1.marked ho15
  replace kb0_0 := cg15.cell kb0_0 (by omega)
  replace kx_w0 := cg15.cell kx_w0 (by omega)
  replace kx_x0 := cg15.cell kx_x0 (by omega)
  replace kx_g0 := cg15.cell kx_g0 (by omega)
  clear cg15 hg15 ho15
  have zt15 := T15.size
  clear T14 zt14
  go_wp2_with fail
  refine (eqCard_same _ _ _ _ (rpdR xs0 ps1 n2) _ o_g0.rd o_w0.rd (by omega)).mono ?_; rintro e w16 ⟨rfl, hb16⟩
  have T16 := bs T15 hb16
  have z16 := hb16.size
  replace r0 := r0.bs zt15 hb16
  replace r1 := r1.bs zt15 hb16
  replace o_w0 := o_w0.bs hb16
  replace o_x0 := o_x0.bs hb16
  replace o_x1 := o_x1.bs hb16
  replace o_g0 := o_g0.bs hb16
  replace kb0_0 := cell_later hb16 kb0_0
  replace kx_w0 := cell_later hb16 kx_w0
  replace kx_x0 := cell_later hb16 kx_x0
  replace kx_g0 := cell_later hb16 kx_g0
  have zt16 := T16.size
  clear T15 zt15 hb16
  go_wp2_with fail
  refine (markCard_any _ _ _ _ _ _ _ o_g0.1 (by omega) (by omega) (by omega)).mono ?_; rintro e w17 ⟨rfl, ho17, hg17⟩
  have cg17 := o_g0.turns hg17
  have z17 := cg17.size
  have T17 := cg17.below T16 (by omega) zt16
  replace r0 := cg17.rd r0 (by omega) zt16
  replace r1 := cg17.rd r1 (by omega) zt16
  replace o_w0 := o_w0.chg cg17 (by omega)
  replace o_x0 := o_x0.chg cg17 (by omega)
  replace o_x1 := o_x1.chg cg17 (by omega)
  replace o_g0 := o_g0.marked ho17
  replace kb0_0 := cg17.cell kb0_0 (by omega)
  replace kx_w0 := cg17.cell kx_w0 (by omega)
  replace kx_x0 := cg17.cell kx_x0 (by omega)
  replace kx_g0 := cg17.cell kx_g0 (by omega)
  clear cg17 hg17 ho17
  have zt17 := T17.size
  clear T16 zt16
  go_wp2_with fail
  refine (heldCard_any _ _ _ _ _ o_g0.rd (by omega) (by omega) (by omega)).mono ?_; rintro e w18 ⟨rfl, hb18⟩
  have T18 := bs T17 hb18
  have z18 := hb18.size
  replace r0 := r0.bs zt17 hb18
  replace r1 := r1.bs zt17 hb18
  replace o_w0 := o_w0.bs hb18
  replace o_x0 := o_x0.bs hb18
  replace o_x1 := o_x1.bs hb18
  replace o_g0 := o_g0.bs hb18
  replace kb0_0 := cell_later hb18 kb0_0
  replace kx_w0 := cell_later hb18 kx_w0
  replace kx_x0 := cell_later hb18 kx_x0
  replace kx_g0 := cell_later hb18 kx_g0
  have zt18 := T18.size
  clear T17 zt17 hb18
  go_wp2_with fail
  refine (toCard_any _ _ _ _ (r0.more zt18) (by omega)).mono ?_; rintro e w19 ⟨g19, rfl, ho19, hb19⟩
  have T19 := bs T18 hb19
  have z19 := hb19.size
  replace r0 := r0.bs zt18 hb19
  replace r1 := r1.bs zt18 hb19
  replace o_w0 := o_w0.bs hb19
  replace o_x0 := o_x0.bs hb19
  replace o_x1 := o_x1.bs hb19
  replace o_g0 := o_g0.bs hb19
  replace kb0_0 := cell_later hb19 kb0_0
  replace kx_w0 := cell_later hb19 kx_w0
  replace kx_x0 := cell_later hb19 kx_x0
  replace kx_g0 := cell_later hb19 kx_g0
  have zt19 := T19.size
  clear T18 zt18 hb19
  have o_t7 := Ob.of ho19
  clear ho19
  go_wp2_with fail
  refine (toCopyS_any _ _ _ _ (r1.more zt19) (by omega)).mono ?_; rintro e w20 ⟨g20, rfl, ho20, hb20⟩
  have T20 := bs T19 hb20
  have z20 := hb20.size
  replace r0 := r0.bs zt19 hb20
  replace r1 := r1.bs zt19 hb20
  replace o_w0 := o_w0.bs hb20
  replace o_x0 := o_x0.bs hb20
  replace o_x1 := o_x1.bs hb20
  replace o_g0 := o_g0.bs hb20
  replace o_t7 := o_t7.bs hb20
  replace kb0_0 := cell_later hb20 kb0_0
  replace kx_w0 := cell_later hb20 kx_w0
  replace kx_x0 := cell_later hb20 kx_x0
  replace kx_g0 := cell_later hb20 kx_g0
  have zt20 := T20.size
  clear T19 zt19 hb20
  have o_t8 := Ob.of ho20
  clear ho20
  go_wp2_with fail
  refine (ReproduceCard_any (some ⟨g19, 0, none⟩) _ (xs0) (some ⟨g20, 0, none⟩) _ (ps1) n2 _ o_t7.rd (by omega) (by omega) o_t8.rd (by omega) ).mono ?_; rintro e w21 ⟨Ah0, ch0, rfl, hoh0, hb21⟩
  have T21 := bs T20 hb21
  have z21 := hb21.size
  replace r0 := r0.bs zt20 hb21
  replace r1 := r1.bs zt20 hb21
  replace o_w0 := o_w0.bs hb21
  replace o_x0 := o_x0.bs hb21
  replace o_x1 := o_x1.bs hb21
  replace o_g0 := o_g0.bs hb21
  replace o_t7 := o_t7.bs hb21
  replace o_t8 := o_t8.bs hb21
  replace kb0_0 := cell_later hb21 kb0_0
  replace kx_w0 := cell_later hb21 kx_w0
  replace kx_x0 := cell_later hb21 kx_x0
  replace kx_g0 := cell_later hb21 kx_g0
  have zt21 := T21.size
  clear T20 zt20 hb21
  have o_h0 := Ob.of hoh0
  clear hoh0
  clear o_t7
  clear o_t8
  replace r0 := r0.alloc zt21 (.cells #[.slice Ah0 (rpdR xs0 ps1 n2).length ch0] 28)
  replace r1 := r1.alloc zt21 (.cells #[.slice Ah0 (rpdR xs0 ps1 n2).length ch0] 28)
  replace T21 := ba T21 (.cells #[.slice Ah0 (rpdR xs0 ps1 n2).length ch0] 28)
  replace o_w0 := o_w0.alloc (.cells #[.slice Ah0 (rpdR xs0 ps1 n2).length ch0] 28)
  replace o_x0 := o_x0.alloc (.cells #[.slice Ah0 (rpdR xs0 ps1 n2).length ch0] 28)
  replace o_x1 := o_x1.alloc (.cells #[.slice Ah0 (rpdR xs0 ps1 n2).length ch0] 28)
  replace o_g0 := o_g0.alloc (.cells #[.slice Ah0 (rpdR xs0 ps1 n2).length ch0] 28)
  replace o_h0 := o_h0.alloc (.cells #[.slice Ah0 (rpdR xs0 ps1 n2).length ch0] 28)
  replace kb0_0 := cell_alloc kb0_0 (.cells #[.slice Ah0 (rpdR xs0 ps1 n2).length ch0] 28)
  replace kx_w0 := cell_alloc kx_w0 (.cells #[.slice Ah0 (rpdR xs0 ps1 n2).length ch0] 28)
  replace kx_x0 := cell_alloc kx_x0 (.cells #[.slice Ah0 (rpdR xs0 ps1 n2).length ch0] 28)
  replace kx_g0 := cell_alloc kx_g0 (.cells #[.slice Ah0 (rpdR xs0 ps1 n2).length ch0] 28)
  have kx_h0 : World.cell? (w21.alloc (.cells #[.slice Ah0 (rpdR xs0 ps1 n2).length ch0] 28)) ⟨w21.heap.size, 0, none⟩ = some (.slice Ah0 (rpdR xs0 ps1 n2).length ch0) := by simp
  replace zt21 := T21.size
  have zb_h0 : (World.heap (w21.alloc (.cells #[.slice Ah0 (rpdR xs0 ps1 n2).length ch0] 28))).size = w21.heap.size + 1 := by simp
  go_wp2_with fail
  refine (eqCard_same _ _ _ _ (rpdR xs0 ps1 n2) _ o_h0.rd o_w0.rd (by omega)).mono ?_; rintro e w22 ⟨rfl, hb22⟩
  have T22 := bs T21 hb22
  have z22 := hb22.size
  simp only [World.size_alloc] at z22
  replace r0 := r0.bs zt21 hb22
  replace r1 := r1.bs zt21 hb22
  replace o_w0 := o_w0.bs hb22
  replace o_x0 := o_x0.bs hb22
  replace o_x1 := o_x1.bs hb22
  replace o_g0 := o_g0.bs hb22
  replace o_h0 := o_h0.bs hb22
  replace kb0_0 := cell_later hb22 kb0_0
  replace kx_w0 := cell_later hb22 kx_w0
  replace kx_x0 := cell_later hb22 kx_x0
  replace kx_g0 := cell_later hb22 kx_g0
  replace kx_h0 := cell_later hb22 kx_h0
  have zt22 := T22.size
  clear T21 zt21 hb22
  go_wp2_with fail
  refine (heldCard_any _ _ _ _ _ o_g0.rd (by omega) (by omega) (by omega)).mono ?_; rintro e w23 ⟨rfl, hb23⟩
  have T23 := bs T22 hb23
  have z23 := hb23.size
  replace r0 := r0.bs zt22 hb23
  replace r1 := r1.bs zt22 hb23
  replace o_w0 := o_w0.bs hb23
  replace o_x0 := o_x0.bs hb23
  replace o_x1 := o_x1.bs hb23
  replace o_g0 := o_g0.bs hb23
  replace o_h0 := o_h0.bs hb23
  replace kb0_0 := cell_later hb23 kb0_0
  replace kx_w0 := cell_later hb23 kx_w0
  replace kx_x0 := cell_later hb23 kx_x0
  replace kx_g0 := cell_later hb23 kx_g0
  replace kx_h0 := cell_later hb23 kx_h0
  have zt23 := T23.size
  clear T22 zt22 hb23
  go_wp2
  go_ret
  exact ⟨rfl, T23⟩

set_option maxRecDepth 100000 in
theorem lawReproduceCard_lifted (os : Os) (started : os.Started) (H : Type) (enc : TypeId × Value → H) :
    ReturnsInHanded {} Try.checked os 3 .any (Rows.fnExactReproduceCardSpec.pre6 enc Try.prog Try.f3 Rows.fnExactReproduceCardRow.domain false) (Rows.fnExactReproduceCardSpec.post enc Try.prog Try.f3 false true false false) := by
  refine returnsInHanded_of_change (C := Try.checked) lawOwn started (by kernel_rfl) Try.func3
    (ChangeSpec.witness6 (enc := enc) (C := Try.checked) false ⟨#[], #[.agg #[.slice none 0 0], .slice none 0 0, .int .i64 0], []⟩ 8 (by kernel_rfl) (by kernel_rfl) (by kernel_rfl) (by kernel_rfl)) ?_
  intro W base args ds gs before hval0 hW _ _
  have hval : ∀ (j : Nat) t v, Try.f3.params[j]? = some t → args[j]? = some v → Value.okWide Try.prog W .any base t v := hval0
  clear hval0
  have hW0 : DataW.Whole enc Try.prog Try.f3.params.toList Rows.fnExactReproduceCardSpec.vars false W args.toList ds gs before := hW
  clear hW
  have hW := hW0
  obtain ⟨p, q, hA, hV, _, _, _⟩ := hW
  rw [Try.params3] at hA hval
  obtain ⟨v0, vs0, d0, ds0, p0, q0, hargs, rfl, rfl, h0, hA0⟩ := trodAll_cons hA
  obtain ⟨v1, vs1, d1, ds1, p1, q1, rfl, rfl, rfl, h1, hA1⟩ := trodAll_cons hA0
  obtain ⟨v2, vs2, d2, ds2, p2, q2, rfl, rfl, rfl, h2, hA2⟩ := trodAll_cons hA1
  obtain ⟨rfl, rfl, rfl⟩ := trodAll_nil hA2
  have hargs2 : args = #[v0, v1, v2] := by cases args; simp_all
  clear hargs
  subst hargs2
  obtain ⟨A0, c0, xs0, rfl, hc0, hm0, r0, hz0⟩ := in_card Try.underlying24 (by kernel_rfl) (by kernel_rfl) rfl Try.underlying22 Try.underlying2 (by kernel_rfl) (hval 0 24 v0 rfl rfl) h0
  obtain ⟨A1, c1, ps1, rfl, hc1, hm1, r1, hz1⟩ := in_pairs Try.underlying25 Try.underlying94 (by kernel_rfl) (by kernel_rfl) rfl rfl Try.underlying2 Try.underlying2 (hval 1 25 v1 rfl rfl) h1
  obtain ⟨n2, rfl, hi2⟩ := in_int Try.underlying2 (hval 2 2 v2 rfl rfl) h2
  have hcall : Calls Try.prog 3 #[.agg #[.slice A0 xs0.length c0], .slice A1 ps1.length c1, .int .i64 n2] W fun e W' => e = .returned (.bool true) ∧ Below W.heap.size W W' := by
    by_cases s0 : xs0.length ≤ 1048576
    case neg => exact lawReproduceCard_no0 A0 c0 xs0 A1 c1 ps1 n2 W r0 r1 hi2  s0 (by omega)
    by_cases s1 : xs0.length + ps1.length ≤ 1048576
    case neg => exact lawReproduceCard_no1 A0 c0 xs0 A1 c1 ps1 n2 W r0 r1 hi2 s0 s1 (by omega)
    exact lawReproduceCard_yes A0 c0 xs0 A1 c1 ps1 n2 W r0 r1 hi2 s1
  refine hcall.mono fun e W' ⟨he, hb⟩ => ⟨_, he, ?_⟩
  exact post_law (f := Try.f3) (s := Rows.fnExactReproduceCardSpec) hW0 rfl (tb := 4) rfl Try.underlying4 rfl lawLaid (by kernel_rfl) hb

theorem fnExactReproduceCard_holds : Rows.FnExactReproduceCardSaid :=
  OpenClaim.holds_of_wide 3 Try.f3 rfl rfl rfl rfl rfl rfl rfl ⟨rfl, rfl, rfl, rfl, rfl⟩ rfl rfl rfl rfl rfl (by kernel_rfl) Try.func3 (by kernel_rfl)
    (of_decide_eq_true (by kernel_rfl)) (by unfold Func.isWrapper; first | (rw [if_pos (by decide +kernel)]; kernel_rfl) | (rw [if_neg (by decide +kernel)]; exact ⟨rfl, rfl⟩))
    (fun os started H enc _ => lawReproduceCard_lifted os started H enc)
#print axioms fnExactReproduceCard_holds
end Go.Proofs.Ytoakjfoioijaaaa
