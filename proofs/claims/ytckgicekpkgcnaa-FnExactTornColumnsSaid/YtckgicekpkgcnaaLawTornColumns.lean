/- The law FnExactTornColumns answers true at every input, and its arguments stay as they were; conditions: none. -/
import Derived.Test.YtckgicekpkgcnaaRows
import Derived.Test.YtckgicekpkgcnaaOpen
import Derived.Test.YtckgicekpkgcnaaLawBase
import Derived.Deep.RegionHeld3
import Derived.Deep.DeepCutAuto
import Derived.Test.YtckgicekpkgcnaaTorn
import Derived.Test.YtckgicekpkgcnaaHarnCard
import Derived.Test.YtckgicekpkgcnaaBoxEnd
namespace Go.Proofs.Ytckgicekpkgcnaa
open Go.RowKit Go.ChangeShapes Go.WideShapes Go.ChangeAt

set_option maxRecDepth 100000 in
theorem lawTornColumns_no0 (A0 : Option Addr) (c0 : Nat) (xs0 : List Int) (fa1 fb1 : Int) (w : World) (_r0 : Rd w w.heap.size 1 A0 xs0.length (ints xs0)) (hn : ¬ xs0.length ≤ 1048576) (hm : xs0.length ≤ maxLen) :
    Calls Try.prog 14 #[.agg #[.slice A0 xs0.length c0], .agg #[.int .i64 fa1, .int .i64 fb1]] w fun e w' => e = .returned (.bool true) ∧ Below w.heap.size w w' := by
  go_enter Try.func14, Try.ntmps14
  have T0 : Below w.heap.size w ((w.alloc (.cells #[.slice A0 xs0.length c0] 51)).alloc (.cells #[.int .i64 fa1, .int .i64 fb1] 23)) := ba (ba (b0 w) _) _
  have kb0_0 : World.cell? ((w.alloc (.cells #[.slice A0 xs0.length c0] 51)).alloc (.cells #[.int .i64 fa1, .int .i64 fb1] 23)) ⟨w.heap.size, 0, none⟩ = some (.slice A0 xs0.length c0) := by simp
  have kb1_0 : World.cell? ((w.alloc (.cells #[.slice A0 xs0.length c0] 51)).alloc (.cells #[.int .i64 fa1, .int .i64 fb1] 23)) ⟨w.heap.size + 1, 0, none⟩ = some (.int .i64 fa1) := by simp
  have kb1_1 : World.cell? ((w.alloc (.cells #[.slice A0 xs0.length c0] 51)).alloc (.cells #[.int .i64 fa1, .int .i64 fb1] 23)) ⟨w.heap.size + 1, 1, none⟩ = some (.int .i64 fb1) := by simp
  go_wp2_with fail
  refine (szCard_no _ _ _ _ _ (by omega) (by omega) hm (by omega)).mono ?_; rintro e w1 ⟨rfl, hb1⟩
  have T1 := bs T0 hb1
  go_wp2
  go_ret
  exact ⟨rfl, T1⟩

set_option maxRecDepth 100000 in
set_option maxHeartbeats 8000000 in
theorem lawTornColumns_yes (A0 : Option Addr) (c0 : Nat) (xs0 : List Int) (fa1 fb1 : Int) (w : World) (r0 : Rd w w.heap.size 1 A0 xs0.length (ints xs0)) (hl : xs0.length ≤ 1048576) :
    Calls Try.prog 14 #[.agg #[.slice A0 xs0.length c0], .agg #[.int .i64 fa1, .int .i64 fb1]] w fun e w' => e = .returned (.bool true) ∧ Below w.heap.size w w' := by
  have hr0 : (tornRes xs0 fa1 fb1).length ≤ 1048576 := by have := tornRes_length xs0 fa1 fb1; omega
  go_enter Try.func14, Try.ntmps14
  have T0 : Below w.heap.size w ((w.alloc (.cells #[.slice A0 xs0.length c0] 51)).alloc (.cells #[.int .i64 fa1, .int .i64 fb1] 23)) := ba (ba (b0 w) _) _
  have zt0 := T0.size
  have kb0_0 : World.cell? ((w.alloc (.cells #[.slice A0 xs0.length c0] 51)).alloc (.cells #[.int .i64 fa1, .int .i64 fb1] 23)) ⟨w.heap.size, 0, none⟩ = some (.slice A0 xs0.length c0) := by simp
  have kb1_0 : World.cell? ((w.alloc (.cells #[.slice A0 xs0.length c0] 51)).alloc (.cells #[.int .i64 fa1, .int .i64 fb1] 23)) ⟨w.heap.size + 1, 0, none⟩ = some (.int .i64 fa1) := by simp
  have kb1_1 : World.cell? ((w.alloc (.cells #[.slice A0 xs0.length c0] 51)).alloc (.cells #[.int .i64 fa1, .int .i64 fb1] 23)) ⟨w.heap.size + 1, 1, none⟩ = some (.int .i64 fb1) := by simp
  replace r0 := r0.below T0
  go_wp2_with fail
  refine (szCard_yes _ _ _ _ _ (by omega) (by omega)).mono ?_; rintro e w1 ⟨rfl, hb1⟩
  have T1 := bs T0 hb1
  have z1 := hb1.size
  simp only [World.size_alloc] at z1
  replace r0 := r0.bs zt0 hb1
  replace kb0_0 := cell_later hb1 kb0_0
  replace kb1_0 := cell_later hb1 kb1_0
  replace kb1_1 := cell_later hb1 kb1_1
  have zt1 := T1.size
  clear T0 zt0 hb1
  go_wp2_with fail
  go_cut [6, 7] (fun s6 s7 wx => BoxLeft 2 w1 wx s6 (tornRes xs0 fa1 fb1) ∧ s7 = .int .i64 (fieldC xs0 fa1 fb1))
  case first =>
    have zz := zt1
    have EE := b0 w1
    go_region_held3 (fun w' => w'.cell? ⟨w.heap.size, 0, none⟩ = some (.slice A0 xs0.length c0) ∧ w'.cell? ⟨w.heap.size + 1, 0, none⟩ = some (.int .i64 fa1) ∧ w'.cell? ⟨w.heap.size + 1, 1, none⟩ = some (.int .i64 fb1)) (first | exact ⟨kb0_0, kb1_0, kb1_1⟩ | exact ⟨cell_alloc kb0_0 _, cell_alloc kb1_0 _, cell_alloc kb1_1 _⟩ | exact ⟨set_far kb0_0 (by omega), set_far kb1_0 (by omega), set_far kb1_1 (by omega)⟩ | go_keep)
      (first
        | (go_at_call 38; refine (toCard_any _ _ _ _ ?_ ?_).mono ?_; ((first | exact r0.more zz | exact (r0.more zz).drew | exact ((r0.more zz).a1 _).drew | exact ((r0.more zz).drew).a1 _)); (omega); rintro e vw0_1 ⟨g_o_q0, rfl, ho, hraw⟩; have hF : Below w1.heap.size w1 vw0_1 := (by first | exact bs (b0 w1).drew hraw | exact bs (ba (b0 w1).drew (.cells #[.slice none 0 0] 55)) hraw | exact bs (ba (b0 w1) (.cells #[.slice none 0 0] 55)).drew hraw); (try replace bq := bq.later hF); (try have bq : BoxAt vw0_1 w1.heap.size := ⟨cell_later hraw (cell_new rfl rfl), froz_later hraw (froz_new rfl) (by simp)⟩); (try simp only [World.size_alloc] at bq); (try have pl := bq.lt); have o_q0 := Ob.of ho; clear ho; replace r0 := r0.bs zz hF; replace kb0_0 := cell_later hF kb0_0; replace kb1_0 := cell_later hF kb1_0; replace kb1_1 := cell_later hF kb1_1; replace zz := Nat.le_trans zz hF.size; replace EE := bs EE hF; have zF := hF.size; clear hraw hF)
        | (go_at_call 16; refine (toField_any _ _ _).mono ?_; rintro e vw0_2 ⟨rfl, hraw⟩; have hF : Below vw0_1.heap.size vw0_1 vw0_2 := (by first | exact hraw | exact bs (ba (b0 vw0_1) (.cells #[.slice none 0 0] 55)) hraw); (try replace bq := bq.later hF); (try have bq : BoxAt vw0_2 vw0_1.heap.size := BoxAt.later BoxAt.new hraw); (try simp only [World.size_alloc] at bq); (try have pl := bq.lt); replace r0 := r0.bs zz hF; replace o_q0 := o_q0.bs hF; replace kb0_0 := cell_later hF kb0_0; replace kb1_0 := cell_later hF kb1_0; replace kb1_1 := cell_later hF kb1_1; replace zz := Nat.le_trans zz hF.size; replace EE := bs EE hF; have zF := hF.size; clear hraw hF)
        | (go_at_call 56; refine (spTornColumns_any (some ⟨g_o_q0, 0, none⟩) _ (xs0) fa1 fb1 _ ?_ ?_ ?_).mono ?_; ((first | exact o_q0.rd | exact (o_q0.rd).a1 _)); (omega); (omega); rintro e vw0_3 ⟨AF, cF, rfl, ho, hraw⟩; have hF : Below vw0_2.heap.size vw0_2 vw0_3 := (by first | exact hraw | exact bs (ba (b0 vw0_2) (.cells #[.slice none 0 0] 55)) hraw); (try replace bq := bq.later hF); (try have bq : BoxAt vw0_3 vw0_2.heap.size := BoxAt.later BoxAt.new hraw); (try simp only [World.size_alloc] at bq); (try have pl := bq.lt); have o_F := Ob.of ho; clear ho; replace r0 := r0.bs zz hF; replace o_q0 := o_q0.bs hF; replace kb0_0 := cell_later hF kb0_0; replace kb1_0 := cell_later hF kb1_0; replace kb1_1 := cell_later hF kb1_1; replace zz := Nat.le_trans zz hF.size; replace EE := bs EE hF; have zF := hF.size; (try (have kq := bq.1; have fq := bq.2)); clear hraw hF)
      )
    all_goals
      go_wp2_with fail
      go_meet
      first
        | exact ⟨box_new EE o_F (by first | omega | (simp only [World.size_alloc]; omega)), rfl⟩
        | exact ⟨box_set EE o_F (by first | omega | (simp only [World.size_alloc]; omega)) (by omega) (by first | omega | (simp only [World.size_alloc]; omega)) kq, rfl⟩
  obtain ⟨⟨p_w0, Aw0, cw0, lo_w0, hi_w0, rfl, kx_w0, o_w0, far_w0, lo1_w0, hi1_w0, p1_w0, p2_w0, hb2⟩, rfl⟩ := hcut
  obtain ⟨w2, hw2⟩ : ∃ x : World, x = wc := ⟨_, rfl⟩
  subst hw2
  have T2 := bs T1 hb2
  have z2 := hb2.size
  replace r0 := r0.bs zt1 hb2
  replace kb0_0 := cell_later hb2 kb0_0
  replace kb1_0 := cell_later hb2 kb1_0
  replace kb1_1 := cell_later hb2 kb1_1
  have zt2 := T2.size
  clear T1 zt1 hb2
  go_wp2_with fail
  refine (toCard_any _ _ _ _ (r0.more zt2) (by omega)).mono ?_; rintro e w3 ⟨g3, rfl, ho3, hb3⟩
  have T3 := bs T2 hb3
  have z3 := hb3.size
  replace r0 := r0.bs zt2 hb3
  replace o_w0 := o_w0.bs hb3
  replace kb0_0 := cell_later hb3 kb0_0
  replace kb1_0 := cell_later hb3 kb1_0
  replace kb1_1 := cell_later hb3 kb1_1
  replace kx_w0 := cell_later hb3 kx_w0
  have zt3 := T3.size
  clear T2 zt2 hb3
  have o_t1 := Ob.of ho3
  clear ho3
  have o_x0 := o_t1
  clear o_t1
  replace r0 := r0.alloc zt3 (.cells #[.slice (some ⟨g3, 0, none⟩) xs0.length xs0.length] 55)
  replace T3 := ba T3 (.cells #[.slice (some ⟨g3, 0, none⟩) xs0.length xs0.length] 55)
  replace o_w0 := o_w0.alloc (.cells #[.slice (some ⟨g3, 0, none⟩) xs0.length xs0.length] 55)
  replace o_x0 := o_x0.alloc (.cells #[.slice (some ⟨g3, 0, none⟩) xs0.length xs0.length] 55)
  replace kb0_0 := cell_alloc kb0_0 (.cells #[.slice (some ⟨g3, 0, none⟩) xs0.length xs0.length] 55)
  replace kb1_0 := cell_alloc kb1_0 (.cells #[.slice (some ⟨g3, 0, none⟩) xs0.length xs0.length] 55)
  replace kb1_1 := cell_alloc kb1_1 (.cells #[.slice (some ⟨g3, 0, none⟩) xs0.length xs0.length] 55)
  replace kx_w0 := cell_alloc kx_w0 (.cells #[.slice (some ⟨g3, 0, none⟩) xs0.length xs0.length] 55)
  have kx_x0 : World.cell? (w3.alloc (.cells #[.slice (some ⟨g3, 0, none⟩) xs0.length xs0.length] 55)) ⟨w3.heap.size, 0, none⟩ = some (.slice (some ⟨g3, 0, none⟩) xs0.length xs0.length) := by simp
  replace zt3 := T3.size
  have zb_x0 : (World.heap (w3.alloc (.cells #[.slice (some ⟨g3, 0, none⟩) xs0.length xs0.length] 55))).size = w3.heap.size + 1 := by simp
  go_wp2_with fail
  go_cut [9, 10] (fun s6 s7 wx => BoxLeft 2 (w3.alloc (.cells #[.slice (some ⟨g3, 0, none⟩) xs0.length xs0.length] 55)) wx s6 (tornRes xs0 fa1 fb1) ∧ s7 = .int .i64 (fieldC xs0 fa1 fb1))
  case first =>
    have zz := zt3
    have EE := b0 (w3.alloc (.cells #[.slice (some ⟨g3, 0, none⟩) xs0.length xs0.length] 55))
    go_region_held3 (fun w' => w'.cell? ⟨w.heap.size, 0, none⟩ = some (.slice A0 xs0.length c0) ∧ w'.cell? ⟨w.heap.size + 1, 0, none⟩ = some (.int .i64 fa1) ∧ w'.cell? ⟨w.heap.size + 1, 1, none⟩ = some (.int .i64 fb1) ∧ w'.cell? ⟨p_w0, 0, none⟩ = some (.slice Aw0 (tornRes xs0 fa1 fb1).length cw0) ∧ w'.cell? ⟨w3.heap.size, 0, none⟩ = some (.slice (some ⟨g3, 0, none⟩) xs0.length xs0.length)) (first | exact ⟨kb0_0, kb1_0, kb1_1, kx_w0, kx_x0⟩ | exact ⟨cell_alloc kb0_0 _, cell_alloc kb1_0 _, cell_alloc kb1_1 _, cell_alloc kx_w0 _, cell_alloc kx_x0 _⟩ | exact ⟨set_far kb0_0 (by omega), set_far kb1_0 (by omega), set_far kb1_1 (by omega), set_far kx_w0 (by omega), set_far kx_x0 (by omega)⟩ | go_keep)
      (first
        | (go_at_call 16; refine (toField_any _ _ _).mono ?_; rintro e vg0_1 ⟨rfl, hraw⟩; have hF : Below (w3.alloc (.cells #[.slice (some ⟨g3, 0, none⟩) xs0.length xs0.length] 55)).heap.size (w3.alloc (.cells #[.slice (some ⟨g3, 0, none⟩) xs0.length xs0.length] 55)) vg0_1 := (by first | exact bs (b0 (w3.alloc (.cells #[.slice (some ⟨g3, 0, none⟩) xs0.length xs0.length] 55))).drew hraw | exact bs (ba (b0 (w3.alloc (.cells #[.slice (some ⟨g3, 0, none⟩) xs0.length xs0.length] 55))).drew (.cells #[.slice none 0 0] 55)) hraw | exact bs (ba (b0 (w3.alloc (.cells #[.slice (some ⟨g3, 0, none⟩) xs0.length xs0.length] 55))) (.cells #[.slice none 0 0] 55)).drew hraw); (try replace bq := bq.later hF); (try have bq : BoxAt vg0_1 (w3.alloc (.cells #[.slice (some ⟨g3, 0, none⟩) xs0.length xs0.length] 55)).heap.size := ⟨cell_later hraw (cell_new rfl rfl), froz_later hraw (froz_new rfl) (by simp)⟩); (try simp only [World.size_alloc] at bq); (try have pl := bq.lt); replace r0 := r0.bs zz hF; replace kb0_0 := cell_later hF kb0_0; replace kb1_0 := cell_later hF kb1_0; replace kb1_1 := cell_later hF kb1_1; replace kx_w0 := cell_later hF kx_w0; replace kx_x0 := cell_later hF kx_x0; replace o_x0 := o_x0.bs hF; replace o_w0 := o_w0.bs hF; replace zz := Nat.le_trans zz hF.size; replace EE := bs EE hF; have zF := hF.size; clear hraw hF)
        | (go_at_call 57; refine (TornColumns_any (some ⟨g3, 0, none⟩) _ (xs0) fa1 fb1 _ ?_ ?_ ?_).mono ?_; ((first | exact o_x0.rd | exact (o_x0.rd).a1 _)); (omega); (omega); rintro e vg0_2 ⟨AF, cF, rfl, ho, hraw⟩; have hF : Below vg0_1.heap.size vg0_1 vg0_2 := (by first | exact hraw | exact bs (ba (b0 vg0_1) (.cells #[.slice none 0 0] 55)) hraw); (try replace bq := bq.later hF); (try have bq : BoxAt vg0_2 vg0_1.heap.size := BoxAt.later BoxAt.new hraw); (try simp only [World.size_alloc] at bq); (try have pl := bq.lt); have o_F := Ob.of ho; clear ho; replace r0 := r0.bs zz hF; replace o_x0 := o_x0.bs hF; replace o_w0 := o_w0.bs hF; replace kb0_0 := cell_later hF kb0_0; replace kb1_0 := cell_later hF kb1_0; replace kb1_1 := cell_later hF kb1_1; replace kx_w0 := cell_later hF kx_w0; replace kx_x0 := cell_later hF kx_x0; replace zz := Nat.le_trans zz hF.size; replace EE := bs EE hF; have zF := hF.size; (try (have kq := bq.1; have fq := bq.2)); clear hraw hF)
      )
    all_goals
      go_wp2_with fail
      go_meet
      first
        | exact ⟨box_new EE o_F (by first | omega | (simp only [World.size_alloc]; omega)), rfl⟩
        | exact ⟨box_set EE o_F (by first | omega | (simp only [World.size_alloc]; omega)) (by omega) (by first | omega | (simp only [World.size_alloc]; omega)) kq, rfl⟩
  obtain ⟨⟨p_g0, Ag0, cg0, lo_g0, hi_g0, rfl, kx_g0, o_g0, far_g0, lo1_g0, hi1_g0, p1_g0, p2_g0, hb4⟩, rfl⟩ := hcut
  obtain ⟨w4, hw4⟩ : ∃ x : World, x = wc := ⟨_, rfl⟩
  subst hw4
  have T4 := bs T3 hb4
  have z4 := hb4.size
  simp only [World.size_alloc] at z4 lo1_g0 p1_g0
  replace r0 := r0.bs zt3 hb4
  replace o_w0 := o_w0.bs hb4
  replace o_x0 := o_x0.bs hb4
  replace kb0_0 := cell_later hb4 kb0_0
  replace kb1_0 := cell_later hb4 kb1_0
  replace kb1_1 := cell_later hb4 kb1_1
  replace kx_w0 := cell_later hb4 kx_w0
  replace kx_x0 := cell_later hb4 kx_x0
  have zt4 := T4.size
  clear T3 zt3 hb4
  go_wp2_with fail
  refine (eqCard_same _ _ _ _ (tornRes xs0 fa1 fb1) _ o_g0.rd o_w0.rd (by omega)).mono ?_; rintro e w5 ⟨rfl, hb5⟩
  have T5 := bs T4 hb5
  have z5 := hb5.size
  replace r0 := r0.bs zt4 hb5
  replace o_w0 := o_w0.bs hb5
  replace o_x0 := o_x0.bs hb5
  replace o_g0 := o_g0.bs hb5
  replace kb0_0 := cell_later hb5 kb0_0
  replace kb1_0 := cell_later hb5 kb1_0
  replace kb1_1 := cell_later hb5 kb1_1
  replace kx_w0 := cell_later hb5 kx_w0
  replace kx_x0 := cell_later hb5 kx_x0
  replace kx_g0 := cell_later hb5 kx_g0
  have zt5 := T5.size
  clear T4 zt4 hb5
  go_wp2_with fail
  go_region_held3 (fun w' => w'.cell? ⟨w.heap.size, 0, none⟩ = some (.slice A0 xs0.length c0) ∧ w'.cell? ⟨w.heap.size + 1, 0, none⟩ = some (.int .i64 fa1) ∧ w'.cell? ⟨w.heap.size + 1, 1, none⟩ = some (.int .i64 fb1) ∧ w'.cell? ⟨p_w0, 0, none⟩ = some (.slice Aw0 (tornRes xs0 fa1 fb1).length cw0) ∧ w'.cell? ⟨w3.heap.size, 0, none⟩ = some (.slice (some ⟨g3, 0, none⟩) xs0.length xs0.length) ∧ w'.cell? ⟨p_g0, 0, none⟩ = some (.slice Ag0 (tornRes xs0 fa1 fb1).length cg0)) (first | exact ⟨kb0_0, kb1_0, kb1_1, kx_w0, kx_x0, kx_g0⟩ | go_keep)
    (first
      | (go_at_call 38; refine (toCard_any _ _ _ _ ?_ ?_).mono ?_; (first | exact (r0.more zt5) | exact ((r0.more zt5)).drew); (omega); rintro e w6 ⟨g6, rfl, ho6, hb6⟩; have hb6 : Below w5.heap.size w5 w6 := ⟨hb6.os, hb6.tape, hb6.output, hb6.size, hb6.block⟩; have ho6 : World.ownsRow w6 w5.heap.size _ _ _ _ _ := ho6; have T6 := bs T5 hb6; have z6 := hb6.size; replace r0 := r0.bs zt5 hb6; replace o_w0 := o_w0.bs hb6; replace o_x0 := o_x0.bs hb6; replace o_g0 := o_g0.bs hb6; replace kb0_0 := cell_later hb6 kb0_0; replace kb1_0 := cell_later hb6 kb1_0; replace kb1_1 := cell_later hb6 kb1_1; replace kx_w0 := cell_later hb6 kx_w0; replace kx_x0 := cell_later hb6 kx_x0; replace kx_g0 := cell_later hb6 kx_g0; have zt6 := T6.size; clear T5 zt5 hb6; have o_t2 := Ob.of ho6; clear ho6)
      | (go_at_call 41; refine (eqCard_same _ _ _ _ (xs0) _ ?_ ?_ ?_).mono ?_; (first | exact o_x0.rd | exact (o_x0.rd).drew); (first | exact o_t2.rd | exact (o_t2.rd).drew); (omega); rintro e w7 ⟨rfl, hb7⟩; have hb7 : Below w6.heap.size w6 w7 := ⟨hb7.os, hb7.tape, hb7.output, hb7.size, hb7.block⟩; have T7 := bs T6 hb7; have z7 := hb7.size; replace r0 := r0.bs zt6 hb7; replace o_w0 := o_w0.bs hb7; replace o_x0 := o_x0.bs hb7; replace o_g0 := o_g0.bs hb7; replace o_t2 := o_t2.bs hb7; replace kb0_0 := cell_later hb7 kb0_0; replace kb1_0 := cell_later hb7 kb1_0; replace kb1_1 := cell_later hb7 kb1_1; replace kx_w0 := cell_later hb7 kx_w0; replace kx_x0 := cell_later hb7 kx_x0; replace kx_g0 := cell_later hb7 kx_g0; have zt7 := T7.size; clear T6 zt6 hb7)
    )
  clear o_t2
  go_wp2_with fail
  refine (markCard_any _ _ _ _ _ _ _ o_x0.1 (by omega) (by omega) (by omega)).mono ?_; rintro e w8 ⟨rfl, ho8, hg8⟩
  have cg8 := o_x0.turns hg8
  have z8 := cg8.size
  have T8 := cg8.below T7 (by omega) zt7
  replace r0 := cg8.rd r0 (by omega) zt7
  replace o_w0 := o_w0.chg cg8 (by omega)
  replace o_g0 := o_g0.chg cg8 (by omega)
  replace o_x0 := o_x0.marked ho8
  replace kb0_0 := cg8.cell kb0_0 (by omega)
  replace kb1_0 := cg8.cell kb1_0 (by omega)
  replace kb1_1 := cg8.cell kb1_1 (by omega)
  replace kx_w0 := cg8.cell kx_w0 (by omega)
  replace kx_x0 := cg8.cell kx_x0 (by omega)
  replace kx_g0 := cg8.cell kx_g0 (by omega)
  clear cg8 hg8 ho8
  have zt8 := T8.size
  clear T7 zt7
  go_wp2_with fail
  refine (eqCard_same _ _ _ _ (tornRes xs0 fa1 fb1) _ o_g0.rd o_w0.rd (by omega)).mono ?_; rintro e w9 ⟨rfl, hb9⟩
  have T9 := bs T8 hb9
  have z9 := hb9.size
  replace r0 := r0.bs zt8 hb9
  replace o_w0 := o_w0.bs hb9
  replace o_x0 := o_x0.bs hb9
  replace o_g0 := o_g0.bs hb9
  replace kb0_0 := cell_later hb9 kb0_0
  replace kb1_0 := cell_later hb9 kb1_0
  replace kb1_1 := cell_later hb9 kb1_1
  replace kx_w0 := cell_later hb9 kx_w0
  replace kx_x0 := cell_later hb9 kx_x0
  replace kx_g0 := cell_later hb9 kx_g0
  have zt9 := T9.size
  clear T8 zt8 hb9
  go_wp2_with fail
  refine (markCard_any _ _ _ _ _ _ _ o_g0.1 (by omega) (by omega) (by omega)).mono ?_; rintro e w10 ⟨rfl, ho10, hg10⟩
  have cg10 := o_g0.turns hg10
  have z10 := cg10.size
  have T10 := cg10.below T9 (by omega) zt9
  replace r0 := cg10.rd r0 (by omega) zt9
  replace o_w0 := o_w0.chg cg10 (by omega)
  replace o_x0 := o_x0.chg cg10 (by omega)
  replace o_g0 := o_g0.marked ho10
  replace kb0_0 := cg10.cell kb0_0 (by omega)
  replace kb1_0 := cg10.cell kb1_0 (by omega)
  replace kb1_1 := cg10.cell kb1_1 (by omega)
  replace kx_w0 := cg10.cell kx_w0 (by omega)
  replace kx_x0 := cg10.cell kx_x0 (by omega)
  replace kx_g0 := cg10.cell kx_g0 (by omega)
  clear cg10 hg10 ho10
  have zt10 := T10.size
  clear T9 zt9
  go_wp2_with fail
  refine (heldCard_any _ _ _ _ _ o_g0.rd (by omega) (by omega) (by omega)).mono ?_; rintro e w11 ⟨rfl, hb11⟩
  have T11 := bs T10 hb11
  have z11 := hb11.size
  replace r0 := r0.bs zt10 hb11
  replace o_w0 := o_w0.bs hb11
  replace o_x0 := o_x0.bs hb11
  replace o_g0 := o_g0.bs hb11
  replace kb0_0 := cell_later hb11 kb0_0
  replace kb1_0 := cell_later hb11 kb1_0
  replace kb1_1 := cell_later hb11 kb1_1
  replace kx_w0 := cell_later hb11 kx_w0
  replace kx_x0 := cell_later hb11 kx_x0
  replace kx_g0 := cell_later hb11 kx_g0
  have zt11 := T11.size
  clear T10 zt10 hb11
  go_wp2_with fail
  go_cut [14, 15] (fun s6 s7 wx => BoxLeft 2 w11 wx s6 (tornRes xs0 fa1 fb1) ∧ s7 = .int .i64 (fieldC xs0 fa1 fb1))
  case first =>
    have zz := zt11
    have EE := b0 w11
    go_region_held3 (fun w' => w'.cell? ⟨w.heap.size, 0, none⟩ = some (.slice A0 xs0.length c0) ∧ w'.cell? ⟨w.heap.size + 1, 0, none⟩ = some (.int .i64 fa1) ∧ w'.cell? ⟨w.heap.size + 1, 1, none⟩ = some (.int .i64 fb1) ∧ w'.cell? ⟨p_w0, 0, none⟩ = some (.slice Aw0 (tornRes xs0 fa1 fb1).length cw0) ∧ w'.cell? ⟨w3.heap.size, 0, none⟩ = some (.slice (some ⟨g3, 0, none⟩) xs0.length xs0.length) ∧ w'.cell? ⟨p_g0, 0, none⟩ = some (.slice Ag0 (tornRes xs0 fa1 fb1).length cg0)) (first | exact ⟨kb0_0, kb1_0, kb1_1, kx_w0, kx_x0, kx_g0⟩ | exact ⟨cell_alloc kb0_0 _, cell_alloc kb1_0 _, cell_alloc kb1_1 _, cell_alloc kx_w0 _, cell_alloc kx_x0 _, cell_alloc kx_g0 _⟩ | exact ⟨set_far kb0_0 (by omega), set_far kb1_0 (by omega), set_far kb1_1 (by omega), set_far kx_w0 (by omega), set_far kx_x0 (by omega), set_far kx_g0 (by omega)⟩ | go_keep)
      (first
        | (go_at_call 38; refine (toCard_any _ _ _ _ ?_ ?_).mono ?_; ((first | exact r0.more zz | exact (r0.more zz).drew | exact ((r0.more zz).a1 _).drew | exact ((r0.more zz).drew).a1 _)); (omega); rintro e vh0_1 ⟨g_o_q0, rfl, ho, hraw⟩; have hF : Below w11.heap.size w11 vh0_1 := (by first | exact bs (b0 w11).drew hraw | exact bs (ba (b0 w11).drew (.cells #[.slice none 0 0] 55)) hraw | exact bs (ba (b0 w11) (.cells #[.slice none 0 0] 55)).drew hraw); (try replace bq := bq.later hF); (try have bq : BoxAt vh0_1 w11.heap.size := ⟨cell_later hraw (cell_new rfl rfl), froz_later hraw (froz_new rfl) (by simp)⟩); (try simp only [World.size_alloc] at bq); (try have pl := bq.lt); have o_q0 := Ob.of ho; clear ho; replace r0 := r0.bs zz hF; replace kb0_0 := cell_later hF kb0_0; replace kb1_0 := cell_later hF kb1_0; replace kb1_1 := cell_later hF kb1_1; replace kx_w0 := cell_later hF kx_w0; replace kx_x0 := cell_later hF kx_x0; replace kx_g0 := cell_later hF kx_g0; replace o_g0 := o_g0.bs hF; replace o_x0 := o_x0.bs hF; replace o_w0 := o_w0.bs hF; replace zz := Nat.le_trans zz hF.size; replace EE := bs EE hF; have zF := hF.size; clear hraw hF)
        | (go_at_call 16; refine (toField_any _ _ _).mono ?_; rintro e vh0_2 ⟨rfl, hraw⟩; have hF : Below vh0_1.heap.size vh0_1 vh0_2 := (by first | exact hraw | exact bs (ba (b0 vh0_1) (.cells #[.slice none 0 0] 55)) hraw); (try replace bq := bq.later hF); (try have bq : BoxAt vh0_2 vh0_1.heap.size := BoxAt.later BoxAt.new hraw); (try simp only [World.size_alloc] at bq); (try have pl := bq.lt); replace r0 := r0.bs zz hF; replace o_q0 := o_q0.bs hF; replace kb0_0 := cell_later hF kb0_0; replace kb1_0 := cell_later hF kb1_0; replace kb1_1 := cell_later hF kb1_1; replace kx_w0 := cell_later hF kx_w0; replace kx_x0 := cell_later hF kx_x0; replace kx_g0 := cell_later hF kx_g0; replace o_g0 := o_g0.bs hF; replace o_x0 := o_x0.bs hF; replace o_w0 := o_w0.bs hF; replace zz := Nat.le_trans zz hF.size; replace EE := bs EE hF; have zF := hF.size; clear hraw hF)
        | (go_at_call 57; refine (TornColumns_any (some ⟨g_o_q0, 0, none⟩) _ (xs0) fa1 fb1 _ ?_ ?_ ?_).mono ?_; ((first | exact o_q0.rd | exact (o_q0.rd).a1 _)); (omega); (omega); rintro e vh0_3 ⟨AF, cF, rfl, ho, hraw⟩; have hF : Below vh0_2.heap.size vh0_2 vh0_3 := (by first | exact hraw | exact bs (ba (b0 vh0_2) (.cells #[.slice none 0 0] 55)) hraw); (try replace bq := bq.later hF); (try have bq : BoxAt vh0_3 vh0_2.heap.size := BoxAt.later BoxAt.new hraw); (try simp only [World.size_alloc] at bq); (try have pl := bq.lt); have o_F := Ob.of ho; clear ho; replace r0 := r0.bs zz hF; replace o_q0 := o_q0.bs hF; replace o_w0 := o_w0.bs hF; replace o_x0 := o_x0.bs hF; replace o_g0 := o_g0.bs hF; replace kb0_0 := cell_later hF kb0_0; replace kb1_0 := cell_later hF kb1_0; replace kb1_1 := cell_later hF kb1_1; replace kx_w0 := cell_later hF kx_w0; replace kx_x0 := cell_later hF kx_x0; replace kx_g0 := cell_later hF kx_g0; replace zz := Nat.le_trans zz hF.size; replace EE := bs EE hF; have zF := hF.size; (try (have kq := bq.1; have fq := bq.2)); clear hraw hF)
      )
    all_goals
      go_wp2_with fail
      go_meet
      first
        | exact ⟨box_new EE o_F (by first | omega | (simp only [World.size_alloc]; omega)), rfl⟩
        | exact ⟨box_set EE o_F (by first | omega | (simp only [World.size_alloc]; omega)) (by omega) (by first | omega | (simp only [World.size_alloc]; omega)) kq, rfl⟩
  obtain ⟨⟨p_h0, Ah0, ch0, lo_h0, hi_h0, rfl, kx_h0, o_h0, far_h0, lo1_h0, hi1_h0, p1_h0, p2_h0, hb12⟩, rfl⟩ := hcut
  obtain ⟨w12, hw12⟩ : ∃ x : World, x = wc := ⟨_, rfl⟩
  subst hw12
  have T12 := bs T11 hb12
  have z12 := hb12.size
  replace r0 := r0.bs zt11 hb12
  replace o_w0 := o_w0.bs hb12
  replace o_x0 := o_x0.bs hb12
  replace o_g0 := o_g0.bs hb12
  replace kb0_0 := cell_later hb12 kb0_0
  replace kb1_0 := cell_later hb12 kb1_0
  replace kb1_1 := cell_later hb12 kb1_1
  replace kx_w0 := cell_later hb12 kx_w0
  replace kx_x0 := cell_later hb12 kx_x0
  replace kx_g0 := cell_later hb12 kx_g0
  have zt12 := T12.size
  clear T11 zt11 hb12
  go_wp2_with fail
  refine (eqCard_same _ _ _ _ (tornRes xs0 fa1 fb1) _ o_h0.rd o_w0.rd (by omega)).mono ?_; rintro e w13 ⟨rfl, hb13⟩
  have T13 := bs T12 hb13
  have z13 := hb13.size
  replace r0 := r0.bs zt12 hb13
  replace o_w0 := o_w0.bs hb13
  replace o_x0 := o_x0.bs hb13
  replace o_g0 := o_g0.bs hb13
  replace o_h0 := o_h0.bs hb13
  replace kb0_0 := cell_later hb13 kb0_0
  replace kb1_0 := cell_later hb13 kb1_0
  replace kb1_1 := cell_later hb13 kb1_1
  replace kx_w0 := cell_later hb13 kx_w0
  replace kx_x0 := cell_later hb13 kx_x0
  replace kx_g0 := cell_later hb13 kx_g0
  replace kx_h0 := cell_later hb13 kx_h0
  have zt13 := T13.size
  clear T12 zt12 hb13
  go_wp2_with fail
  refine (heldCard_any _ _ _ _ _ o_g0.rd (by omega) (by omega) (by omega)).mono ?_; rintro e w14 ⟨rfl, hb14⟩
  have T14 := bs T13 hb14
  have z14 := hb14.size
  replace r0 := r0.bs zt13 hb14
  replace o_w0 := o_w0.bs hb14
  replace o_x0 := o_x0.bs hb14
  replace o_g0 := o_g0.bs hb14
  replace o_h0 := o_h0.bs hb14
  replace kb0_0 := cell_later hb14 kb0_0
  replace kb1_0 := cell_later hb14 kb1_0
  replace kb1_1 := cell_later hb14 kb1_1
  replace kx_w0 := cell_later hb14 kx_w0
  replace kx_x0 := cell_later hb14 kx_x0
  replace kx_g0 := cell_later hb14 kx_g0
  replace kx_h0 := cell_later hb14 kx_h0
  have zt14 := T14.size
  clear T13 zt13 hb14
  go_wp2
  go_ret
  exact ⟨rfl, T14⟩

set_option maxRecDepth 100000 in
theorem lawTornColumns_lifted (os : Os) (started : os.Started) (H : Type) (enc : TypeId × Value → H) :
    ReturnsInHanded {} Try.checked os 14 .any (Rows.fnExactTornColumnsSpec.pre6 enc Try.prog Try.f14 Rows.fnExactTornColumnsRow.domain false) (Rows.fnExactTornColumnsSpec.post enc Try.prog Try.f14 false true false false) := by
  refine returnsInHanded_of_change (C := Try.checked) lawOwn started (by kernel_rfl) Try.func14
    (ChangeSpec.witness6 (enc := enc) (C := Try.checked) false ⟨#[], #[.agg #[.slice none 0 0], .agg #[.int .i64 0, .int .i64 0]], []⟩ 8 (by kernel_rfl) (by kernel_rfl) (by kernel_rfl) (by kernel_rfl)) ?_
  intro W base args ds gs before hval0 hW _ _
  have hval : ∀ (j : Nat) t v, Try.f14.params[j]? = some t → args[j]? = some v → Value.okWide Try.prog W .any base t v := hval0
  clear hval0
  have hW0 : DataW.Whole enc Try.prog Try.f14.params.toList Rows.fnExactTornColumnsSpec.vars false W args.toList ds gs before := hW
  clear hW
  have hW := hW0
  obtain ⟨p, q, hA, hV, _, _, _⟩ := hW
  rw [Try.params14] at hA hval
  obtain ⟨v0, vs0, d0, ds0, p0, q0, hargs, rfl, rfl, h0, hA0⟩ := trodAll_cons hA
  obtain ⟨v1, vs1, d1, ds1, p1, q1, rfl, rfl, rfl, h1, hA1⟩ := trodAll_cons hA0
  obtain ⟨rfl, rfl, rfl⟩ := trodAll_nil hA1
  have hargs2 : args = #[v0, v1] := by cases args; simp_all
  clear hargs
  subst hargs2
  obtain ⟨A0, c0, xs0, rfl, hc0, hm0, r0, hz0⟩ := in_card Try.underlying51 (by kernel_rfl) (by kernel_rfl) rfl Try.underlying49 Try.underlying2 (by kernel_rfl) (hval 0 51 v0 rfl rfl) h0
  obtain ⟨fa1, fb1, rfl, ha1, hb1⟩ := in_pair Try.underlying23 (by kernel_rfl) (by kernel_rfl) rfl rfl Try.underlying2 Try.underlying2 (hval 1 23 v1 rfl rfl) h1
  have hcall : Calls Try.prog 14 #[.agg #[.slice A0 xs0.length c0], .agg #[.int .i64 fa1, .int .i64 fb1]] W fun e W' => e = .returned (.bool true) ∧ Below W.heap.size W W' := by
    by_cases s0 : xs0.length ≤ 1048576
    case neg => exact lawTornColumns_no0 A0 c0 xs0 fa1 fb1 W r0  s0 (by omega)
    exact lawTornColumns_yes A0 c0 xs0 fa1 fb1 W r0 s0
  refine hcall.mono fun e W' ⟨he, hb⟩ => ⟨_, he, ?_⟩
  exact post_law (f := Try.f14) (s := Rows.fnExactTornColumnsSpec) hW0 rfl (tb := 4) rfl Try.underlying4 rfl lawLaid (by kernel_rfl) hb

theorem fnExactTornColumns_holds : Rows.FnExactTornColumnsSaid :=
  OpenClaim.holds_of_wide 14 Try.f14 rfl rfl rfl rfl rfl rfl rfl ⟨rfl, rfl, rfl, rfl, rfl⟩ rfl rfl rfl rfl rfl (by kernel_rfl) Try.func14 (by kernel_rfl)
    (of_decide_eq_true (by kernel_rfl)) (by unfold Func.isWrapper; first | (rw [if_pos (by decide +kernel)]; kernel_rfl) | (rw [if_neg (by decide +kernel)]; exact ⟨rfl, rfl⟩))
    (fun os started H enc _ => lawTornColumns_lifted os started H enc)
#print axioms fnExactTornColumns_holds
end Go.Proofs.Ytckgicekpkgcnaa
