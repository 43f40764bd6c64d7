/- The law FnExactInsertCard answers true at every input, and its arguments stay as they were; conditions: none. -/
import Derived.Test.YtdikiokiefpcjaaRows
import Derived.Test.YtdikiokiefpcjaaOpen
import Derived.Test.YtdikiokiefpcjaaLawBase
import Derived.Deep.RegionHeld3
import Derived.Deep.DeepCutAuto
import Derived.Test.YtdikiokiefpcjaaInsSp
import Derived.Test.YtdikiokiefpcjaaInsImpl
import Derived.Test.YtdikiokiefpcjaaHarnCard
import Derived.Test.YtdikiokiefpcjaaHarnDeck
import Derived.Test.YtdikiokiefpcjaaOpenDeck
namespace Go.Proofs.Ytdikiokiefpcjaa
open Go.RowKit Go.ChangeShapes Go.WideShapes Go.ChangeAt

set_option maxRecDepth 100000 in
theorem lawInsertCard_no0 (D0 : Option Addr) (c0 : Nat) (hs0 : List Hd) (A1 : Option Addr) (c1 : Nat) (xs1 : List Int) (fa2 fb2 : Int) (w : World) (r0 : RdD w w.heap.size D0 hs0) (_r1 : Rd w w.heap.size 1 A1 xs1.length (ints xs1)) (hn : ¬ (hs0.length + tot hs0) ≤ 1048576) (hm : hs0.length ≤ maxLen ∧ ∀ h ∈ hs0, h.xs.length ≤ maxLen) :
    Calls Try.prog 3 #[.slice D0 hs0.length c0, .agg #[.slice A1 xs1.length c1], .agg #[.int .i64 fa2, .int .i64 fb2]] w fun e w' => e = .returned (.bool true) ∧ Below w.heap.size w w' := by
  go_enter Try.func3, Try.ntmps3
  have T0 : Below w.heap.size w ((w.alloc (.cells #[.slice A1 xs1.length c1] 25)).alloc (.cells #[.int .i64 fa2, .int .i64 fb2] 27)) := ba (ba (b0 w) _) _
  have kb0_0 : World.cell? ((w.alloc (.cells #[.slice A1 xs1.length c1] 25)).alloc (.cells #[.int .i64 fa2, .int .i64 fb2] 27)) ⟨w.heap.size, 0, none⟩ = some (.slice A1 xs1.length c1) := by simp
  have kb1_0 : World.cell? ((w.alloc (.cells #[.slice A1 xs1.length c1] 25)).alloc (.cells #[.int .i64 fa2, .int .i64 fb2] 27)) ⟨w.heap.size + 1, 0, none⟩ = some (.int .i64 fa2) := by simp
  have kb1_1 : World.cell? ((w.alloc (.cells #[.slice A1 xs1.length c1] 25)).alloc (.cells #[.int .i64 fa2, .int .i64 fb2] 27)) ⟨w.heap.size + 1, 1, none⟩ = some (.int .i64 fb2) := by simp
  go_wp2_with fail
  refine (szCardS_no _ _ _ _ _ ((r0.below T0).more T0.size) (by omega) (by omega) hm (by omega)).mono ?_; rintro e w1 ⟨rfl, hb1⟩
  have T1 := bs T0 hb1
  go_wp2
  go_ret
  exact ⟨rfl, T1⟩

set_option maxRecDepth 100000 in
theorem lawInsertCard_no1 (D0 : Option Addr) (c0 : Nat) (hs0 : List Hd) (A1 : Option Addr) (c1 : Nat) (xs1 : List Int) (fa2 fb2 : Int) (w : World) (r0 : RdD w w.heap.size D0 hs0) (_r1 : Rd w w.heap.size 1 A1 xs1.length (ints xs1)) (hl : (hs0.length + tot hs0) ≤ 1048576) (hn : ¬ (hs0.length + tot hs0) + xs1.length ≤ 1048576) (hm : xs1.length ≤ maxLen) :
    Calls Try.prog 3 #[.slice D0 hs0.length c0, .agg #[.slice A1 xs1.length c1], .agg #[.int .i64 fa2, .int .i64 fb2]] w fun e w' => e = .returned (.bool true) ∧ Below w.heap.size w w' := by
  go_enter Try.func3, Try.ntmps3
  have T0 : Below w.heap.size w ((w.alloc (.cells #[.slice A1 xs1.length c1] 25)).alloc (.cells #[.int .i64 fa2, .int .i64 fb2] 27)) := ba (ba (b0 w) _) _
  have kb0_0 : World.cell? ((w.alloc (.cells #[.slice A1 xs1.length c1] 25)).alloc (.cells #[.int .i64 fa2, .int .i64 fb2] 27)) ⟨w.heap.size, 0, none⟩ = some (.slice A1 xs1.length c1) := by simp
  have kb1_0 : World.cell? ((w.alloc (.cells #[.slice A1 xs1.length c1] 25)).alloc (.cells #[.int .i64 fa2, .int .i64 fb2] 27)) ⟨w.heap.size + 1, 0, none⟩ = some (.int .i64 fa2) := by simp
  have kb1_1 : World.cell? ((w.alloc (.cells #[.slice A1 xs1.length c1] 25)).alloc (.cells #[.int .i64 fa2, .int .i64 fb2] 27)) ⟨w.heap.size + 1, 1, none⟩ = some (.int .i64 fb2) := by simp
  go_wp2_with fail
  refine (szCardS_yes _ _ _ _ _ ((r0.below T0).more T0.size) (by omega) (by omega)).mono ?_; rintro e w1 ⟨rfl, hb1⟩
  have T1 := bs T0 hb1
  replace kb0_0 := cell_later hb1 kb0_0
  replace kb1_0 := cell_later hb1 kb1_0
  replace kb1_1 := cell_later hb1 kb1_1
  go_wp2_with fail
  refine (szCard_no _ _ _ _ _ (by omega) (by omega) hm (by omega)).mono ?_; rintro e w2 ⟨rfl, hb2⟩
  have T2 := bs T1 hb2
  go_wp2
  go_ret
  exact ⟨rfl, T2⟩

set_option maxRecDepth 100000 in
set_option maxHeartbeats 8000000 in
theorem lawInsertCard_yes (D0 : Option Addr) (c0 : Nat) (hs0 : List Hd) (A1 : Option Addr) (c1 : Nat) (xs1 : List Int) (fa2 fb2 : Int) (w : World) (r0 : RdD w w.heap.size D0 hs0) (r1 : Rd w w.heap.size 1 A1 xs1.length (ints xs1)) (hl : (hs0.length + tot hs0) + xs1.length ≤ 1048576) :
    Calls Try.prog 3 #[.slice D0 hs0.length c0, .agg #[.slice A1 xs1.length c1], .agg #[.int .i64 fa2, .int .i64 fb2]] w fun e w' => e = .returned (.bool true) ∧ Below w.heap.size w w' := by
  go_enter Try.func3, Try.ntmps3
  have T0 : Below w.heap.size w ((w.alloc (.cells #[.slice A1 xs1.length c1] 25)).alloc (.cells #[.int .i64 fa2, .int .i64 fb2] 27)) := ba (ba (b0 w) _) _
  have zt0 := T0.size
  have kb0_0 : World.cell? ((w.alloc (.cells #[.slice A1 xs1.length c1] 25)).alloc (.cells #[.int .i64 fa2, .int .i64 fb2] 27)) ⟨w.heap.size, 0, none⟩ = some (.slice A1 xs1.length c1) := by simp
  have kb1_0 : World.cell? ((w.alloc (.cells #[.slice A1 xs1.length c1] 25)).alloc (.cells #[.int .i64 fa2, .int .i64 fb2] 27)) ⟨w.heap.size + 1, 0, none⟩ = some (.int .i64 fa2) := by simp
  have kb1_1 : World.cell? ((w.alloc (.cells #[.slice A1 xs1.length c1] 25)).alloc (.cells #[.int .i64 fa2, .int .i64 fb2] 27)) ⟨w.heap.size + 1, 1, none⟩ = some (.int .i64 fb2) := by simp
  replace r0 := r0.below T0
  replace r1 := r1.below T0
  go_wp2_with fail
  refine (szCardS_yes _ _ _ _ _ (r0.more zt0) (by omega) (by omega)).mono ?_; rintro e w1 ⟨rfl, hb1⟩
  have T1 := bs T0 hb1
  have z1 := hb1.size
  simp only [World.size_alloc] at z1
  replace r0 := r0.bs zt0 hb1
  replace r1 := r1.bs zt0 hb1
  replace kb0_0 := cell_later hb1 kb0_0
  replace kb1_0 := cell_later hb1 kb1_0
  replace kb1_1 := cell_later hb1 kb1_1
  have zt1 := T1.size
  clear T0 zt0 hb1
  go_wp2_with fail
  refine (szCard_yes _ _ _ _ _ (by omega) (by omega)).mono ?_; rintro e w2 ⟨rfl, hb2⟩
  have T2 := bs T1 hb2
  have z2 := hb2.size
  replace r0 := r0.bs zt1 hb2
  replace r1 := r1.bs zt1 hb2
  replace kb0_0 := cell_later hb2 kb0_0
  replace kb1_0 := cell_later hb2 kb1_0
  replace kb1_1 := cell_later hb2 kb1_1
  have zt2 := T2.size
  clear T1 zt1 hb2
  go_wp2_with fail
  go_region_held3 (fun w' => w'.cell? ⟨w.heap.size, 0, none⟩ = some (.slice A1 xs1.length c1) ∧ w'.cell? ⟨w.heap.size + 1, 0, none⟩ = some (.int .i64 fa2) ∧ w'.cell? ⟨w.heap.size + 1, 1, none⟩ = some (.int .i64 fb2)) (first | exact ⟨kb0_0, kb1_0, kb1_1⟩ | go_keep)
    (first
      | (go_at_call 17; refine (toCardS_any _ _ _ _ ?_ ?_).mono ?_; (first | exact (r0.more zt2) | exact ((r0.more zt2)).drew); (omega); rintro e w3 ⟨g3, gs3, rfl, hcs3, ho3, hb3⟩; have hb3 : Below w2.heap.size w2 w3 := ⟨hb3.os, hb3.tape, hb3.output, hb3.size, hb3.block⟩; have ho3 : ObD w3 w2.heap.size _ _ _ _ _ _ := ho3; have T3 := bs T2 hb3; have z3 := hb3.size; replace r0 := r0.bs zt2 hb3; replace r1 := r1.bs zt2 hb3; replace kb0_0 := cell_later hb3 kb0_0; replace kb1_0 := cell_later hb3 kb1_0; replace kb1_1 := cell_later hb3 kb1_1; have zt3 := T3.size; clear T2 zt2 hb3; have o_t1 := ho3; clear ho3; have bd_t1 : gs3.length + tot gs3 ≤ 1048576 := (by have h1 := tot_cards hcs3; have h2 := (cards_same hcs3).1; omega))
      | (go_at_call 18; refine (toCard_any _ _ _ _ ?_ ?_).mono ?_; (first | exact (r1.more zt3) | exact ((r1.more zt3)).drew); (omega); rintro e w4 ⟨g4, rfl, ho4, hb4⟩; have hb4 : Below w3.heap.size w3 w4 := ⟨hb4.os, hb4.tape, hb4.output, hb4.size, hb4.block⟩; have ho4 : World.ownsRow w4 w3.heap.size _ _ _ _ _ := ho4; have T4 := bs T3 hb4; have z4 := hb4.size; replace r0 := r0.bs zt3 hb4; replace r1 := r1.bs zt3 hb4; replace o_t1 := o_t1.bs hb4; replace kb0_0 := cell_later hb4 kb0_0; replace kb1_0 := cell_later hb4 kb1_0; replace kb1_1 := cell_later hb4 kb1_1; have zt4 := T4.size; clear T3 zt3 hb4; have o_t2 := Ob.of ho4; clear ho4)
      | (go_at_call 19; refine (toField_any _ _ _).mono ?_; rintro e w5 ⟨rfl, hb5⟩; have hb5 : Below w4.heap.size w4 w5 := ⟨hb5.os, hb5.tape, hb5.output, hb5.size, hb5.block⟩; have T5 := bs T4 hb5; have z5 := hb5.size; replace r0 := r0.bs zt4 hb5; replace r1 := r1.bs zt4 hb5; replace o_t1 := o_t1.bs hb5; replace o_t2 := o_t2.bs hb5; replace kb0_0 := cell_later hb5 kb0_0; replace kb1_0 := cell_later hb5 kb1_0; replace kb1_1 := cell_later hb5 kb1_1; have zt5 := T5.size; clear T4 zt4 hb5)
      | (go_at_call 16; refine (spInsertCard_any (some ⟨g3, 0, none⟩) _ gs3 (cards hs0) (some ⟨g4, 0, none⟩) _ (xs1) fa2 fb2 _ ?_ hcs3 bd_t1 ?_ ?_ ?_ ?_).mono ?_; (first | exact o_t1.rd | exact (o_t1.rd).drew); (exact o_t1.cap.1); (first | exact o_t2.rd | exact (o_t2.rd).drew); (omega); (omega); rintro e w6 ⟨Aw0, cw0, Gw0, rfl, hcw0, how0, hb6⟩; have hb6 : Below w5.heap.size w5 w6 := ⟨hb6.os, hb6.tape, hb6.output, hb6.size, hb6.block⟩; have how0 : ObD w6 w5.heap.size _ _ _ _ _ _ := how0; have T6 := bs T5 hb6; have z6 := hb6.size; replace r0 := r0.bs zt5 hb6; replace r1 := r1.bs zt5 hb6; replace o_t1 := o_t1.bs hb6; replace o_t2 := o_t2.bs hb6; replace kb0_0 := cell_later hb6 kb0_0; replace kb1_0 := cell_later hb6 kb1_0; replace kb1_1 := cell_later hb6 kb1_1; have zt6 := T6.size; clear T5 zt5 hb6; have o_w0 := how0; clear how0; have bd_w0 : Gw0.length + tot Gw0 ≤ 1048576 := (by have := mgeR_bnd _ _ _ _ hcw0; omega))
    )
  clear o_t1
  clear o_t2
  go_wp2_with fail
  refine (toCardS_any _ _ _ _ (r0.more zt6) (by omega)).mono ?_; rintro e w7 ⟨g7, gs7, rfl, hcs7, ho7, hb7⟩
  have T7 := bs T6 hb7
  have z7 := hb7.size
  replace r0 := r0.bs zt6 hb7
  replace r1 := r1.bs zt6 hb7
  replace o_w0 := o_w0.bs hb7
  replace kb0_0 := cell_later hb7 kb0_0
  replace kb1_0 := cell_later hb7 kb1_0
  replace kb1_1 := cell_later hb7 kb1_1
  have zt7 := T7.size
  clear T6 zt6 hb7
  have o_t4 := ho7
  clear ho7
  have bd_t4 : gs7.length + tot gs7 ≤ 1048576 := by have h1 := tot_cards hcs7; have h2 := (cards_same hcs7).1; omega
  have o_x0 := o_t4
  clear o_t4
  go_wp2_with fail
  refine (toCard_any _ _ _ _ (r1.more zt7) (by omega)).mono ?_; rintro e w8 ⟨g8, rfl, ho8, hb8⟩
  have T8 := bs T7 hb8
  have z8 := hb8.size
  replace r0 := r0.bs zt7 hb8
  replace r1 := r1.bs zt7 hb8
  replace o_w0 := o_w0.bs hb8
  replace o_x0 := o_x0.bs hb8
  replace kb0_0 := cell_later hb8 kb0_0
  replace kb1_0 := cell_later hb8 kb1_0
  replace kb1_1 := cell_later hb8 kb1_1
  have zt8 := T8.size
  clear T7 zt7 hb8
  have o_t5 := Ob.of ho8
  clear ho8
  have o_x1 := o_t5
  clear o_t5
  replace r0 := r0.alloc zt8 (.cells #[.slice (some ⟨g8, 0, none⟩) xs1.length xs1.length] 34)
  replace r1 := r1.alloc zt8 (.cells #[.slice (some ⟨g8, 0, none⟩) xs1.length xs1.length] 34)
  replace T8 := ba T8 (.cells #[.slice (some ⟨g8, 0, none⟩) xs1.length xs1.length] 34)
  replace o_w0 := o_w0.alloc (.cells #[.slice (some ⟨g8, 0, none⟩) xs1.length xs1.length] 34)
  replace o_x0 := o_x0.alloc (.cells #[.slice (some ⟨g8, 0, none⟩) xs1.length xs1.length] 34)
  replace o_x1 := o_x1.alloc (.cells #[.slice (some ⟨g8, 0, none⟩) xs1.length xs1.length] 34)
  replace kb0_0 := cell_alloc kb0_0 (.cells #[.slice (some ⟨g8, 0, none⟩) xs1.length xs1.length] 34)
  replace kb1_0 := cell_alloc kb1_0 (.cells #[.slice (some ⟨g8, 0, none⟩) xs1.length xs1.length] 34)
  replace kb1_1 := cell_alloc kb1_1 (.cells #[.slice (some ⟨g8, 0, none⟩) xs1.length xs1.length] 34)
  have kx_x1 : World.cell? (w8.alloc (.cells #[.slice (some ⟨g8, 0, none⟩) xs1.length xs1.length] 34)) ⟨w8.heap.size, 0, none⟩ = some (.slice (some ⟨g8, 0, none⟩) xs1.length xs1.length) := by simp
  replace zt8 := T8.size
  have zb_x1 : (World.heap (w8.alloc (.cells #[.slice (some ⟨g8, 0, none⟩) xs1.length xs1.length] 34))).size = w8.heap.size + 1 := by simp
  go_wp2_with fail
  go_region_held3 (fun w' => w'.cell? ⟨w.heap.size, 0, none⟩ = some (.slice A1 xs1.length c1) ∧ w'.cell? ⟨w.heap.size + 1, 0, none⟩ = some (.int .i64 fa2) ∧ w'.cell? ⟨w.heap.size + 1, 1, none⟩ = some (.int .i64 fb2) ∧ w'.cell? ⟨w8.heap.size, 0, none⟩ = some (.slice (some ⟨g8, 0, none⟩) xs1.length xs1.length)) (first | exact ⟨kb0_0, kb1_0, kb1_1, kx_x1⟩ | go_keep)
    (first
      | (go_at_call 19; refine (toField_any _ _ _).mono ?_; rintro e w9 ⟨rfl, hb9⟩; have hb9 : Below (w8.alloc (.cells #[.slice (some ⟨g8, 0, none⟩) xs1.length xs1.length] 34)).heap.size (w8.alloc (.cells #[.slice (some ⟨g8, 0, none⟩) xs1.length xs1.length] 34)) w9 := ⟨hb9.os, hb9.tape, hb9.output, hb9.size, hb9.block⟩; have T9 := bs T8 hb9; have z9 := hb9.size; simp only [World.size_alloc] at z9; replace r0 := r0.bs zt8 hb9; replace r1 := r1.bs zt8 hb9; replace o_w0 := o_w0.bs hb9; replace o_x0 := o_x0.bs hb9; replace o_x1 := o_x1.bs hb9; replace kb0_0 := cell_later hb9 kb0_0; replace kb1_0 := cell_later hb9 kb1_0; replace kb1_1 := cell_later hb9 kb1_1; replace kx_x1 := cell_later hb9 kx_x1; have zt9 := T9.size; clear T8 zt8 hb9)
      | (go_at_call 20; refine (InsertCard_any (some ⟨g7, 0, none⟩) _ gs7 (cards hs0) (some ⟨g8, 0, none⟩) _ (xs1) fa2 fb2 _ ?_ hcs7 bd_t4 ?_ ?_ ?_ ?_).mono ?_; (first | exact o_x0.rd | exact (o_x0.rd).drew); (exact o_x0.cap.1); (first | exact o_x1.rd | exact (o_x1.rd).drew); (omega); (omega); rintro e w10 ⟨Ag0, cg0, Gg0, rfl, hcg0, hog0, hb10⟩; have hb10 : Below w9.heap.size w9 w10 := ⟨hb10.os, hb10.tape, hb10.output, hb10.size, hb10.block⟩; have hog0 : ObD w10 w9.heap.size _ _ _ _ _ _ := hog0; have T10 := bs T9 hb10; have z10 := hb10.size; replace r0 := r0.bs zt9 hb10; replace r1 := r1.bs zt9 hb10; replace o_w0 := o_w0.bs hb10; replace o_x0 := o_x0.bs hb10; replace o_x1 := o_x1.bs hb10; replace kb0_0 := cell_later hb10 kb0_0; replace kb1_0 := cell_later hb10 kb1_0; replace kb1_1 := cell_later hb10 kb1_1; replace kx_x1 := cell_later hb10 kx_x1; have zt10 := T10.size; clear T9 zt9 hb10; have o_g0 := hog0; clear hog0; have bd_g0 : Gg0.length + tot Gg0 ≤ 1048576 := (by have := mgeR_bnd _ _ _ _ hcg0; omega))
    )
  go_wp2_with fail
  refine (eqCardS_same _ _ _ _ Gg0 Gw0 _ o_g0.rd o_w0.rd (hcg0.trans hcw0.symm) bd_g0).mono ?_; rintro e w11 ⟨rfl, hb11⟩
  have T11 := bs T10 hb11
  have z11 := hb11.size
  replace r0 := r0.bs zt10 hb11
  replace r1 := r1.bs zt10 hb11
  replace o_w0 := o_w0.bs hb11
  replace o_x0 := o_x0.bs hb11
  replace o_x1 := o_x1.bs hb11
  replace o_g0 := o_g0.bs hb11
  replace kb0_0 := cell_later hb11 kb0_0
  replace kb1_0 := cell_later hb11 kb1_0
  replace kb1_1 := cell_later hb11 kb1_1
  replace kx_x1 := cell_later hb11 kx_x1
  have zt11 := T11.size
  clear T10 zt10 hb11
  go_wp2_with fail
  refine (toCardS_any _ _ _ _ (r0.more zt11) (by omega)).mono ?_; rintro e w12 ⟨g12, gs12, rfl, hcs12, ho12, hb12⟩
  have T12 := bs T11 hb12
  have z12 := hb12.size
  replace r0 := r0.bs zt11 hb12
  replace r1 := r1.bs zt11 hb12
  replace o_w0 := o_w0.bs hb12
  replace o_x0 := o_x0.bs hb12
  replace o_x1 := o_x1.bs hb12
  replace o_g0 := o_g0.bs hb12
  replace kb0_0 := cell_later hb12 kb0_0
  replace kb1_0 := cell_later hb12 kb1_0
  replace kb1_1 := cell_later hb12 kb1_1
  replace kx_x1 := cell_later hb12 kx_x1
  have zt12 := T12.size
  clear T11 zt11 hb12
  have o_t7 := ho12
  clear ho12
  have bd_t7 : gs12.length + tot gs12 ≤ 1048576 := by have h1 := tot_cards hcs12; have h2 := (cards_same hcs12).1; omega
  go_wp2_with fail
  refine (eqCardS_same _ _ _ _ gs7 gs12 _ o_x0.rd o_t7.rd (hcs7.trans hcs12.symm) bd_t4).mono ?_; rintro e w13 ⟨rfl, hb13⟩
  have T13 := bs T12 hb13
  have z13 := hb13.size
  replace r0 := r0.bs zt12 hb13
  replace r1 := r1.bs zt12 hb13
  replace o_w0 := o_w0.bs hb13
  replace o_x0 := o_x0.bs hb13
  replace o_x1 := o_x1.bs hb13
  replace o_g0 := o_g0.bs hb13
  replace o_t7 := o_t7.bs hb13
  replace kb0_0 := cell_later hb13 kb0_0
  replace kb1_0 := cell_later hb13 kb1_0
  replace kb1_1 := cell_later hb13 kb1_1
  replace kx_x1 := cell_later hb13 kx_x1
  have zt13 := T13.size
  clear T12 zt12 hb13
  clear o_t7
  go_wp2_with fail
  go_region_held3 (fun w' => w'.cell? ⟨w.heap.size, 0, none⟩ = some (.slice A1 xs1.length c1) ∧ w'.cell? ⟨w.heap.size + 1, 0, none⟩ = some (.int .i64 fa2) ∧ w'.cell? ⟨w.heap.size + 1, 1, none⟩ = some (.int .i64 fb2) ∧ w'.cell? ⟨w8.heap.size, 0, none⟩ = some (.slice (some ⟨g8, 0, none⟩) xs1.length xs1.length)) (first | exact ⟨kb0_0, kb1_0, kb1_1, kx_x1⟩ | go_keep)
    (first
      | (go_at_call 18; refine (toCard_any _ _ _ _ ?_ ?_).mono ?_; (first | exact (r1.more zt13) | exact ((r1.more zt13)).drew); (omega); rintro e w14 ⟨g14, rfl, ho14, hb14⟩; have hb14 : Below w13.heap.size w13 w14 := ⟨hb14.os, hb14.tape, hb14.output, hb14.size, hb14.block⟩; have ho14 : World.ownsRow w14 w13.heap.size _ _ _ _ _ := ho14; have T14 := bs T13 hb14; have z14 := hb14.size; replace r0 := r0.bs zt13 hb14; replace r1 := r1.bs zt13 hb14; replace o_w0 := o_w0.bs hb14; replace o_x0 := o_x0.bs hb14; replace o_x1 := o_x1.bs hb14; replace o_g0 := o_g0.bs hb14; replace kb0_0 := cell_later hb14 kb0_0; replace kb1_0 := cell_later hb14 kb1_0; replace kb1_1 := cell_later hb14 kb1_1; replace kx_x1 := cell_later hb14 kx_x1; have zt14 := T14.size; clear T13 zt13 hb14; have o_t8 := Ob.of ho14; clear ho14)
      | (go_at_call 22; refine (eqCard_same _ _ _ _ (xs1) _ ?_ ?_ ?_).mono ?_; (first | exact o_x1.rd | exact (o_x1.rd).drew); (first | exact o_t8.rd | exact (o_t8.rd).drew); (omega); rintro e w15 ⟨rfl, hb15⟩; have hb15 : Below w14.heap.size w14 w15 := ⟨hb15.os, hb15.tape, hb15.output, hb15.size, hb15.block⟩; have T15 := bs T14 hb15; have z15 := hb15.size; replace r0 := r0.bs zt14 hb15; replace r1 := r1.bs zt14 hb15; replace o_w0 := o_w0.bs hb15; replace o_x0 := o_x0.bs hb15; replace o_x1 := o_x1.bs hb15; replace o_g0 := o_g0.bs hb15; replace o_t8 := o_t8.bs hb15; replace kb0_0 := cell_later hb15 kb0_0; replace kb1_0 := cell_later hb15 kb1_0; replace kb1_1 := cell_later hb15 kb1_1; replace kx_x1 := cell_later hb15 kx_x1; have zt15 := T15.size; clear T14 zt14 hb15)
    )
  clear o_t8
  go_wp2_with fail
  refine (markCardS_any _ _ _ _ _ _ _ o_x0 bd_t4 (by omega) (by omega)).mono ?_; rintro e w16 ⟨rfl, ho16, hg16⟩
  have cg16 := hg16
  have z16 := cg16.size
  have T16 := cg16.below T15 (by omega) zt15
  replace r0 := cg16.rdD r0 (by omega) zt15
  replace r1 := cg16.rd r1 (by omega) zt15
  replace o_w0 := o_w0.chg cg16 (by omega)
  replace o_x1 := o_x1.chg cg16 (by omega)
  replace o_g0 := o_g0.chg cg16 (by omega)
  replace o_x0 := ho16
  replace kb0_0 := cg16.cell kb0_0 (by omega)
  replace kb1_0 := cg16.cell kb1_0 (by omega)
  replace kb1_1 := cg16.cell kb1_1 (by omega)
  replace kx_x1 := cg16.cell kx_x1 (by omega)
  clear cg16 hg16 ho16
  have zt16 := T16.size
  clear T15 zt15
  go_wp2_with fail
  refine (markCard_any _ _ _ _ _ _ _ o_x1.1 (by omega) (by omega) (by omega)).mono ?_; rintro e w17 ⟨rfl, ho17, hg17⟩
  have cg17 := o_x1.turns hg17
  have z17 := cg17.size
  have T17 := cg17.below T16 (by omega) zt16
  replace r0 := cg17.rdD r0 (by omega) zt16
  replace r1 := cg17.rd r1 (by omega) zt16
  replace o_w0 := o_w0.chg cg17 (by omega)
  replace o_x0 := o_x0.chg cg17 (by omega)
  replace o_g0 := o_g0.chg cg17 (by omega)
  replace o_x1 := o_x1.marked ho17
  replace kb0_0 := cg17.cell kb0_0 (by omega)
  replace kb1_0 := cg17.cell kb1_0 (by omega)
  replace kb1_1 := cg17.cell kb1_1 (by omega)
  replace kx_x1 := cg17.cell kx_x1 (by omega)
  clear cg17 hg17 ho17
  have zt17 := T17.size
  clear T16 zt16
  go_wp2_with fail
  refine (eqCardS_same _ _ _ _ Gg0 Gw0 _ o_g0.rd o_w0.rd (hcg0.trans hcw0.symm) bd_g0).mono ?_; rintro e w18 ⟨rfl, hb18⟩
  have T18 := bs T17 hb18
  have z18 := hb18.size
  replace r0 := r0.bs zt17 hb18
  replace r1 := r1.bs zt17 hb18
  replace o_w0 := o_w0.bs hb18
  replace o_x0 := o_x0.bs hb18
  replace o_x1 := o_x1.bs hb18
  replace o_g0 := o_g0.bs hb18
  replace kb0_0 := cell_later hb18 kb0_0
  replace kb1_0 := cell_later hb18 kb1_0
  replace kb1_1 := cell_later hb18 kb1_1
  replace kx_x1 := cell_later hb18 kx_x1
  have zt18 := T18.size
  clear T17 zt17 hb18
  go_wp2_with fail
  refine (markCardS_any _ _ _ _ _ _ _ o_g0 bd_g0 (by omega) (by omega)).mono ?_; rintro e w19 ⟨rfl, ho19, hg19⟩
  have cg19 := hg19
  have z19 := cg19.size
  have T19 := cg19.below T18 (by omega) zt18
  replace r0 := cg19.rdD r0 (by omega) zt18
  replace r1 := cg19.rd r1 (by omega) zt18
  replace o_w0 := o_w0.chg cg19 (by omega)
  replace o_x0 := o_x0.chg cg19 (by omega)
  replace o_x1 := o_x1.chg cg19 (by omega)
  replace o_g0 := ho19
  replace kb0_0 := cg19.cell kb0_0 (by omega)
  replace kb1_0 := cg19.cell kb1_0 (by omega)
  replace kb1_1 := cg19.cell kb1_1 (by omega)
  replace kx_x1 := cg19.cell kx_x1 (by omega)
  clear cg19 hg19 ho19
  have zt19 := T19.size
  clear T18 zt18
  go_wp2_with fail
  refine (heldCardS_any _ _ Gg0 _ _ o_g0.rd bd_g0 (by omega) (by omega)).mono ?_; rintro e w20 ⟨rfl, hb20⟩
  have T20 := bs T19 hb20
  have z20 := hb20.size
  replace r0 := r0.bs zt19 hb20
  replace r1 := r1.bs zt19 hb20
  replace o_w0 := o_w0.bs hb20
  replace o_x0 := o_x0.bs hb20
  replace o_x1 := o_x1.bs hb20
  replace o_g0 := o_g0.bs hb20
  replace kb0_0 := cell_later hb20 kb0_0
  replace kb1_0 := cell_later hb20 kb1_0
  replace kb1_1 := cell_later hb20 kb1_1
  replace kx_x1 := cell_later hb20 kx_x1
  have zt20 := T20.size
  clear T19 zt19 hb20
  go_wp2_with fail
  go_region_held3 (fun w' => w'.cell? ⟨w.heap.size, 0, none⟩ = some (.slice A1 xs1.length c1) ∧ w'.cell? ⟨w.heap.size + 1, 0, none⟩ = some (.int .i64 fa2) ∧ w'.cell? ⟨w.heap.size + 1, 1, none⟩ = some (.int .i64 fb2) ∧ w'.cell? ⟨w8.heap.size, 0, none⟩ = some (.slice (some ⟨g8, 0, none⟩) xs1.length xs1.length)) (first | exact ⟨kb0_0, kb1_0, kb1_1, kx_x1⟩ | go_keep)
    (first
      | (go_at_call 17; refine (toCardS_any _ _ _ _ ?_ ?_).mono ?_; (first | exact (r0.more zt20) | exact ((r0.more zt20)).drew); (omega); rintro e w21 ⟨g21, gs21, rfl, hcs21, ho21, hb21⟩; have hb21 : Below w20.heap.size w20 w21 := ⟨hb21.os, hb21.tape, hb21.output, hb21.size, hb21.block⟩; have ho21 : ObD w21 w20.heap.size _ _ _ _ _ _ := ho21; have T21 := bs T20 hb21; have z21 := hb21.size; replace r0 := r0.bs zt20 hb21; replace r1 := r1.bs zt20 hb21; replace o_w0 := o_w0.bs hb21; replace o_x0 := o_x0.bs hb21; replace o_x1 := o_x1.bs hb21; replace o_g0 := o_g0.bs hb21; replace kb0_0 := cell_later hb21 kb0_0; replace kb1_0 := cell_later hb21 kb1_0; replace kb1_1 := cell_later hb21 kb1_1; replace kx_x1 := cell_later hb21 kx_x1; have zt21 := T21.size; clear T20 zt20 hb21; have o_t9 := ho21; clear ho21; have bd_t9 : gs21.length + tot gs21 ≤ 1048576 := (by have h1 := tot_cards hcs21; have h2 := (cards_same hcs21).1; omega))
      | (go_at_call 18; refine (toCard_any _ _ _ _ ?_ ?_).mono ?_; (first | exact (r1.more zt21) | exact ((r1.more zt21)).drew); (omega); rintro e w22 ⟨g22, rfl, ho22, hb22⟩; have hb22 : Below w21.heap.size w21 w22 := ⟨hb22.os, hb22.tape, hb22.output, hb22.size, hb22.block⟩; have ho22 : World.ownsRow w22 w21.heap.size _ _ _ _ _ := ho22; have T22 := bs T21 hb22; have z22 := hb22.size; replace r0 := r0.bs zt21 hb22; replace r1 := r1.bs zt21 hb22; replace o_w0 := o_w0.bs hb22; replace o_x0 := o_x0.bs hb22; replace o_x1 := o_x1.bs hb22; replace o_g0 := o_g0.bs hb22; replace o_t9 := o_t9.bs hb22; replace kb0_0 := cell_later hb22 kb0_0; replace kb1_0 := cell_later hb22 kb1_0; replace kb1_1 := cell_later hb22 kb1_1; replace kx_x1 := cell_later hb22 kx_x1; have zt22 := T22.size; clear T21 zt21 hb22; have o_t10 := Ob.of ho22; clear ho22)
      | (go_at_call 19; refine (toField_any _ _ _).mono ?_; rintro e w23 ⟨rfl, hb23⟩; have hb23 : Below w22.heap.size w22 w23 := ⟨hb23.os, hb23.tape, hb23.output, hb23.size, hb23.block⟩; have T23 := bs T22 hb23; have z23 := hb23.size; replace r0 := r0.bs zt22 hb23; replace r1 := r1.bs zt22 hb23; replace o_w0 := o_w0.bs hb23; replace o_x0 := o_x0.bs hb23; replace o_x1 := o_x1.bs hb23; replace o_g0 := o_g0.bs hb23; replace o_t9 := o_t9.bs hb23; replace o_t10 := o_t10.bs hb23; replace kb0_0 := cell_later hb23 kb0_0; replace kb1_0 := cell_later hb23 kb1_0; replace kb1_1 := cell_later hb23 kb1_1; replace kx_x1 := cell_later hb23 kx_x1; have zt23 := T23.size; clear T22 zt22 hb23)
      | (go_at_call 20; refine (InsertCard_any (some ⟨g21, 0, none⟩) _ gs21 (cards hs0) (some ⟨g22, 0, none⟩) _ (xs1) fa2 fb2 _ ?_ hcs21 bd_t9 ?_ ?_ ?_ ?_).mono ?_; (first | exact o_t9.rd | exact (o_t9.rd).drew); (exact o_t9.cap.1); (first | exact o_t10.rd | exact (o_t10.rd).drew); (omega); (omega); rintro e w24 ⟨Ah0, ch0, Gh0, rfl, hch0, hoh0, hb24⟩; have hb24 : Below w23.heap.size w23 w24 := ⟨hb24.os, hb24.tape, hb24.output, hb24.size, hb24.block⟩; have hoh0 : ObD w24 w23.heap.size _ _ _ _ _ _ := hoh0; have T24 := bs T23 hb24; have z24 := hb24.size; replace r0 := r0.bs zt23 hb24; replace r1 := r1.bs zt23 hb24; replace o_w0 := o_w0.bs hb24; replace o_x0 := o_x0.bs hb24; replace o_x1 := o_x1.bs hb24; replace o_g0 := o_g0.bs hb24; replace o_t9 := o_t9.bs hb24; replace o_t10 := o_t10.bs hb24; replace kb0_0 := cell_later hb24 kb0_0; replace kb1_0 := cell_later hb24 kb1_0; replace kb1_1 := cell_later hb24 kb1_1; replace kx_x1 := cell_later hb24 kx_x1; have zt24 := T24.size; clear T23 zt23 hb24; have o_h0 := hoh0; clear hoh0; have bd_h0 : Gh0.length + tot Gh0 ≤ 1048576 := (by have := mgeR_bnd _ _ _ _ hch0; omega))
    )
  clear o_t9
  clear o_t10
  go_wp2_with fail
  refine (eqCardS_same _ _ _ _ Gh0 Gw0 _ o_h0.rd o_w0.rd (hch0.trans hcw0.symm) bd_h0).mono ?_; rintro e w25 ⟨rfl, hb25⟩
  have T25 := bs T24 hb25
  have z25 := hb25.size
  replace r0 := r0.bs zt24 hb25
  replace r1 := r1.bs zt24 hb25
  replace o_w0 := o_w0.bs hb25
  replace o_x0 := o_x0.bs hb25
  replace o_x1 := o_x1.bs hb25
  replace o_g0 := o_g0.bs hb25
  replace o_h0 := o_h0.bs hb25
  replace kb0_0 := cell_later hb25 kb0_0
  replace kb1_0 := cell_later hb25 kb1_0
  replace kb1_1 := cell_later hb25 kb1_1
  replace kx_x1 := cell_later hb25 kx_x1
  have zt25 := T25.size
  clear T24 zt24 hb25
  go_wp2_with fail
  refine (heldCardS_any _ _ Gg0 _ _ o_g0.rd bd_g0 (by omega) (by omega)).mono ?_; rintro e w26 ⟨rfl, hb26⟩
  have T26 := bs T25 hb26
  have z26 := hb26.size
  replace r0 := r0.bs zt25 hb26
  replace r1 := r1.bs zt25 hb26
  replace o_w0 := o_w0.bs hb26
  replace o_x0 := o_x0.bs hb26
  replace o_x1 := o_x1.bs hb26
  replace o_g0 := o_g0.bs hb26
  replace o_h0 := o_h0.bs hb26
  replace kb0_0 := cell_later hb26 kb0_0
  replace kb1_0 := cell_later hb26 kb1_0
  replace kb1_1 := cell_later hb26 kb1_1
  replace kx_x1 := cell_later hb26 kx_x1
  have zt26 := T26.size
  clear T25 zt25 hb26
  go_wp2
  go_ret
  exact ⟨rfl, T26⟩

set_option maxRecDepth 100000 in
theorem lawInsertCard_lifted (os : Os) (started : os.Started) (H : Type) (enc : TypeId × Value → H) :
    ReturnsInHanded {} Try.checked os 3 .any (Rows.fnExactInsertCardSpec.pre6 enc Try.prog Try.f3 Rows.fnExactInsertCardRow.domain false) (Rows.fnExactInsertCardSpec.post enc Try.prog Try.f3 false true false false) := by
  refine returnsInHanded_of_change (C := Try.checked) lawOwn started (by kernel_rfl) Try.func3
    (ChangeSpec.witness6 (enc := enc) (C := Try.checked) false ⟨#[], #[.slice none 0 0, .agg #[.slice none 0 0], .agg #[.int .i64 0, .int .i64 0]], []⟩ 8 (by kernel_rfl) (by kernel_rfl) (by kernel_rfl) (by kernel_rfl)) ?_
  intro W base args ds gs before hval0 hW _ _
  have hval : ∀ (j : Nat) t v, Try.f3.params[j]? = some t → args[j]? = some v → Value.okWide Try.prog W .any base t v := hval0
  clear hval0
  have hW0 : DataW.Whole enc Try.prog Try.f3.params.toList Rows.fnExactInsertCardSpec.vars false W args.toList ds gs before := hW
  clear hW
  have hW := hW0
  obtain ⟨p, q, hA, hV, _, _, _⟩ := hW
  rw [Try.params3] at hA hval
  obtain ⟨v0, vs0, d0, ds0, p0, q0, hargs, rfl, rfl, h0, hA0⟩ := trodAll_cons hA
  obtain ⟨v1, vs1, d1, ds1, p1, q1, rfl, rfl, rfl, h1, hA1⟩ := trodAll_cons hA0
  obtain ⟨v2, vs2, d2, ds2, p2, q2, rfl, rfl, rfl, h2, hA2⟩ := trodAll_cons hA1
  obtain ⟨rfl, rfl, rfl⟩ := trodAll_nil hA2
  have hargs2 : args = #[v0, v1, v2] := by cases args; simp_all
  clear hargs
  subst hargs2
  obtain ⟨D0, c0, hs0, rfl, hc0, hm0, r0, hz0⟩ := in_deck Try.underlying22 Try.underlying25 (by kernel_rfl) (by kernel_rfl) rfl Try.underlying23 Try.underlying2 (by kernel_rfl) (hval 0 22 v0 rfl rfl) h0
  obtain ⟨A1, c1, xs1, rfl, hc1, hm1, r1, hz1⟩ := in_card Try.underlying25 (by kernel_rfl) (by kernel_rfl) rfl Try.underlying23 Try.underlying2 (by kernel_rfl) (hval 1 25 v1 rfl rfl) h1
  obtain ⟨fa2, fb2, rfl, ha2, hb2⟩ := in_pair Try.underlying27 (by kernel_rfl) (by kernel_rfl) rfl rfl Try.underlying2 Try.underlying2 (hval 2 27 v2 rfl rfl) h2
  have hcall : Calls Try.prog 3 #[.slice D0 hs0.length c0, .agg #[.slice A1 xs1.length c1], .agg #[.int .i64 fa2, .int .i64 fb2]] W fun e W' => e = .returned (.bool true) ∧ Below W.heap.size W W' := by
    by_cases s0 : (hs0.length + tot hs0) ≤ 1048576
    case neg => exact lawInsertCard_no0 D0 c0 hs0 A1 c1 xs1 fa2 fb2 W r0 r1  s0 ⟨by omega, fun h hh => Nat.le_trans (r0.cap h hh) (hz0 h hh).1⟩
    by_cases s1 : (hs0.length + tot hs0) + xs1.length ≤ 1048576
    case neg => exact lawInsertCard_no1 D0 c0 hs0 A1 c1 xs1 fa2 fb2 W r0 r1 s0 s1 (by omega)
    exact lawInsertCard_yes D0 c0 hs0 A1 c1 xs1 fa2 fb2 W r0 r1 s1
  refine hcall.mono fun e W' ⟨he, hb⟩ => ⟨_, he, ?_⟩
  exact post_law (f := Try.f3) (s := Rows.fnExactInsertCardSpec) hW0 rfl (tb := 4) rfl Try.underlying4 rfl lawLaid (by kernel_rfl) hb

theorem fnExactInsertCard_holds : Rows.FnExactInsertCardSaid :=
  OpenClaim.holds_of_wide 3 Try.f3 rfl rfl rfl rfl rfl rfl rfl ⟨rfl, rfl, rfl, rfl, rfl⟩ rfl rfl rfl rfl rfl (by kernel_rfl) Try.func3 (by kernel_rfl)
    (of_decide_eq_true (by kernel_rfl)) (by unfold Func.isWrapper; first | (rw [if_pos (by decide +kernel)]; kernel_rfl) | (rw [if_neg (by decide +kernel)]; exact ⟨rfl, rfl⟩))
    (fun os started H enc _ => lawInsertCard_lifted os started H enc)
#print axioms fnExactInsertCard_holds
end Go.Proofs.Ytdikiokiefpcjaa
