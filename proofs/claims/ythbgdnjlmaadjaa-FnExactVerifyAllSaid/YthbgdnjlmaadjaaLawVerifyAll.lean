/- The law FnExactVerifyAll answers true at every input, and its arguments stay as they were; conditions: none. -/
import Derived.Test.YthbgdnjlmaadjaaRows
import Derived.Test.YthbgdnjlmaadjaaOpen
import Derived.Test.YthbgdnjlmaadjaaLawBase
import Derived.Deep.RegionHeld3
import Derived.Deep.DeepCutAuto
import Derived.Test.YthbgdnjlmaadjaaVerImpl
import Derived.Test.YthbgdnjlmaadjaaHarnCard
import Derived.Test.YthbgdnjlmaadjaaHarnDeck
import Derived.Test.YthbgdnjlmaadjaaHarnStr
import Derived.Test.YthbgdnjlmaadjaaOpenDeck
namespace Go.Proofs.Ythbgdnjlmaadjaa
open Go.RowKit Go.ChangeShapes Go.WideShapes Go.ChangeAt

set_option maxRecDepth 100000 in
theorem lawVerifyAll_no0 (s0 : ByteArray) (A1 : Option Addr) (c1 : Nat) (xs1 : List Int) (D2 : Option Addr) (c2 : Nat) (hs2 : List Hd) (K3 : Option Addr) (c3 : Nat) (ts3 : List ByteArray) (w : World) (_hq0 : s0.size ≤ 1048576) (_r1 : Rd w w.heap.size 1 A1 xs1.length (ints xs1)) (_r2 : RdD w w.heap.size D2 hs2) (_r3 : Rd w w.heap.size 1 K3 ts3.length (strv ts3)) (hn : ¬ xs1.length ≤ 1048576) (hm : xs1.length ≤ maxLen) :
    Calls Try.prog 6 #[.string s0, .agg #[.slice A1 xs1.length c1], .slice D2 hs2.length c2, .slice K3 ts3.length c3] w fun e w' => e = .returned (.bool true) ∧ Below w.heap.size w w' := by
  go_enter Try.func6, Try.ntmps6
  have T0 : Below w.heap.size w (w.alloc (.cells #[.slice A1 xs1.length c1] 71)) := ba (b0 w) _
  have kb0_0 : World.cell? (w.alloc (.cells #[.slice A1 xs1.length c1] 71)) ⟨w.heap.size, 0, none⟩ = some (.slice A1 xs1.length c1) := by simp
  go_wp2_with fail
  refine (szCard_no _ _ _ _ _ (by omega) (by omega) hm (by omega)).mono ?_; rintro e w1 ⟨rfl, hb1⟩
  have T1 := bs T0 hb1
  go_wp2
  go_ret
  exact ⟨rfl, T1⟩

set_option maxRecDepth 100000 in
theorem lawVerifyAll_no1 (s0 : ByteArray) (A1 : Option Addr) (c1 : Nat) (xs1 : List Int) (D2 : Option Addr) (c2 : Nat) (hs2 : List Hd) (K3 : Option Addr) (c3 : Nat) (ts3 : List ByteArray) (w : World) (_hq0 : s0.size ≤ 1048576) (_r1 : Rd w w.heap.size 1 A1 xs1.length (ints xs1)) (r2 : RdD w w.heap.size D2 hs2) (_r3 : Rd w w.heap.size 1 K3 ts3.length (strv ts3)) (hl : xs1.length ≤ 1048576) (hn : ¬ xs1.length + (hs2.length + tot hs2) ≤ 1048576) (hm : hs2.length ≤ maxLen ∧ ∀ h ∈ hs2, h.xs.length ≤ maxLen) :
    Calls Try.prog 6 #[.string s0, .agg #[.slice A1 xs1.length c1], .slice D2 hs2.length c2, .slice K3 ts3.length c3] w fun e w' => e = .returned (.bool true) ∧ Below w.heap.size w w' := by
  go_enter Try.func6, Try.ntmps6
  have T0 : Below w.heap.size w (w.alloc (.cells #[.slice A1 xs1.length c1] 71)) := ba (b0 w) _
  have kb0_0 : World.cell? (w.alloc (.cells #[.slice A1 xs1.length c1] 71)) ⟨w.heap.size, 0, none⟩ = some (.slice A1 xs1.length c1) := by simp
  go_wp2_with fail
  refine (szCard_yes _ _ _ _ _ (by omega) (by omega)).mono ?_; rintro e w1 ⟨rfl, hb1⟩
  have T1 := bs T0 hb1
  replace kb0_0 := cell_later hb1 kb0_0
  go_wp2_with fail
  refine (szCardS_no _ _ _ _ _ ((r2.below T1).more T1.size) (by omega) (by omega) hm (by omega)).mono ?_; rintro e w2 ⟨rfl, hb2⟩
  have T2 := bs T1 hb2
  go_wp2
  go_ret
  exact ⟨rfl, T2⟩

set_option maxRecDepth 100000 in
theorem lawVerifyAll_no2 (s0 : ByteArray) (A1 : Option Addr) (c1 : Nat) (xs1 : List Int) (D2 : Option Addr) (c2 : Nat) (hs2 : List Hd) (K3 : Option Addr) (c3 : Nat) (ts3 : List ByteArray) (w : World) (_hq0 : s0.size ≤ 1048576) (_r1 : Rd w w.heap.size 1 A1 xs1.length (ints xs1)) (r2 : RdD w w.heap.size D2 hs2) (r3 : Rd w w.heap.size 1 K3 ts3.length (strv ts3)) (hl : xs1.length + (hs2.length + tot hs2) ≤ 1048576) (hn : ¬ xs1.length + (hs2.length + tot hs2) + (ts3.length + stot ts3) ≤ 1048576) (hm : ts3.length ≤ maxLen ∧ ∀ t ∈ ts3, t.size ≤ maxLen) :
    Calls Try.prog 6 #[.string s0, .agg #[.slice A1 xs1.length c1], .slice D2 hs2.length c2, .slice K3 ts3.length c3] w fun e w' => e = .returned (.bool true) ∧ Below w.heap.size w w' := by
  go_enter Try.func6, Try.ntmps6
  have T0 : Below w.heap.size w (w.alloc (.cells #[.slice A1 xs1.length c1] 71)) := ba (b0 w) _
  have kb0_0 : World.cell? (w.alloc (.cells #[.slice A1 xs1.length c1] 71)) ⟨w.heap.size, 0, none⟩ = some (.slice A1 xs1.length c1) := by simp
  go_wp2_with fail
  refine (szCard_yes _ _ _ _ _ (by omega) (by omega)).mono ?_; rintro e w1 ⟨rfl, hb1⟩
  have T1 := bs T0 hb1
  replace kb0_0 := cell_later hb1 kb0_0
  go_wp2_with fail
  refine (szCardS_yes _ _ _ _ _ ((r2.below T1).more T1.size) (by omega) (by omega)).mono ?_; rintro e w2 ⟨rfl, hb2⟩
  have T2 := bs T1 hb2
  replace kb0_0 := cell_later hb2 kb0_0
  go_wp2_with fail
  refine (szStringS_no _ _ _ _ _ ((r3.below T2).more T2.size) (by omega) (by omega) hm (by omega)).mono ?_; rintro e w3 ⟨rfl, hb3⟩
  have T3 := bs T2 hb3
  go_wp2
  go_ret
  exact ⟨rfl, T3⟩

set_option maxRecDepth 100000 in
theorem lawVerifyAll_big0 (s0 : ByteArray) (A1 : Option Addr) (c1 : Nat) (xs1 : List Int) (D2 : Option Addr) (c2 : Nat) (hs2 : List Hd) (K3 : Option Addr) (c3 : Nat) (ts3 : List ByteArray) (w : World) (_r1 : Rd w w.heap.size 1 A1 xs1.length (ints xs1)) (_r2 : RdD w w.heap.size D2 hs2) (_r3 : Rd w w.heap.size 1 K3 ts3.length (strv ts3)) (hbig : ¬ s0.size ≤ 1048576) (_hmx : s0.size ≤ maxLen) :
    Calls Try.prog 6 #[.string s0, .agg #[.slice A1 xs1.length c1], .slice D2 hs2.length c2, .slice K3 ts3.length c3] w fun e w' => e = .returned (.bool true) ∧ Below w.heap.size w w' := by
  go_enter Try.func6, Try.ntmps6
  have T0 : Below w.heap.size w (w.alloc (.cells #[.slice A1 xs1.length c1] 71)) := ba (b0 w) _
  have hbig2 : 1048576 < s0.size := by omega
  go_wp2
  go_ret
  exact ⟨rfl, T0⟩

set_option maxRecDepth 100000 in
set_option maxHeartbeats 8000000 in
theorem lawVerifyAll_yes (s0 : ByteArray) (A1 : Option Addr) (c1 : Nat) (xs1 : List Int) (D2 : Option Addr) (c2 : Nat) (hs2 : List Hd) (K3 : Option Addr) (c3 : Nat) (ts3 : List ByteArray) (w : World) (hq0 : s0.size ≤ 1048576) (r1 : Rd w w.heap.size 1 A1 xs1.length (ints xs1)) (r2 : RdD w w.heap.size D2 hs2) (r3 : Rd w w.heap.size 1 K3 ts3.length (strv ts3)) (hl : xs1.length + (hs2.length + tot hs2) + (ts3.length + stot ts3) ≤ 1048576) :
    Calls Try.prog 6 #[.string s0, .agg #[.slice A1 xs1.length c1], .slice D2 hs2.length c2, .slice K3 ts3.length c3] w fun e w' => e = .returned (.bool true) ∧ Below w.heap.size w w' := by
  have hr0 : (vaR s0 xs1 (cards hs2) ts3).length ≤ 1048576 := by have := vaR_length s0 xs1 (cards hs2) ts3; omega
  have HTS3 := Lib.hid (show ∀ t ∈ ts3, t.size ≤ 1048576 from fun t h => by have := stot_mem h; omega)
  go_enter Try.func6, Try.ntmps6
  have T0 : Below w.heap.size w (w.alloc (.cells #[.slice A1 xs1.length c1] 71)) := ba (b0 w) _
  have zt0 := T0.size
  have kb0_0 : World.cell? (w.alloc (.cells #[.slice A1 xs1.length c1] 71)) ⟨w.heap.size, 0, none⟩ = some (.slice A1 xs1.length c1) := by simp
  replace r1 := r1.below T0
  replace r2 := r2.below T0
  replace r3 := r3.below T0
  go_wp2_with fail
  refine (szCard_yes _ _ _ _ _ (by omega) (by omega)).mono ?_; rintro e w1 ⟨rfl, hb1⟩
  have T1 := bs T0 hb1
  have z1 := hb1.size
  simp only [World.size_alloc] at z1
  replace r1 := r1.bs zt0 hb1
  replace r2 := r2.bs zt0 hb1
  replace r3 := r3.bs zt0 hb1
  replace kb0_0 := cell_later hb1 kb0_0
  have zt1 := T1.size
  clear T0 zt0 hb1
  go_wp2_with fail
  refine (szCardS_yes _ _ _ _ _ (r2.more zt1) (by omega) (by omega)).mono ?_; rintro e w2 ⟨rfl, hb2⟩
  have T2 := bs T1 hb2
  have z2 := hb2.size
  replace r1 := r1.bs zt1 hb2
  replace r2 := r2.bs zt1 hb2
  replace r3 := r3.bs zt1 hb2
  replace kb0_0 := cell_later hb2 kb0_0
  have zt2 := T2.size
  clear T1 zt1 hb2
  go_wp2_with fail
  refine (szStringS_yes _ _ _ _ _ (r3.more zt2) (by omega) (by omega)).mono ?_; rintro e w3 ⟨rfl, hb3⟩
  have T3 := bs T2 hb3
  have z3 := hb3.size
  replace r1 := r1.bs zt2 hb3
  replace r2 := r2.bs zt2 hb3
  replace r3 := r3.bs zt2 hb3
  replace kb0_0 := cell_later hb3 kb0_0
  have zt3 := T3.size
  clear T2 zt2 hb3
  go_wp2_with fail
  refine (toCard_any _ _ _ _ (r1.more zt3) (by omega)).mono ?_; rintro e w4 ⟨g4, rfl, ho4, hb4⟩
  have T4 := bs T3 hb4
  have z4 := hb4.size
  replace r1 := r1.bs zt3 hb4
  replace r2 := r2.bs zt3 hb4
  replace r3 := r3.bs zt3 hb4
  replace kb0_0 := cell_later hb4 kb0_0
  have zt4 := T4.size
  clear T3 zt3 hb4
  have o_t1 := Ob.of ho4
  clear ho4
  go_wp2_with fail
  refine (toCardS_any _ _ _ _ (r2.more zt4) (by omega)).mono ?_; rintro e w5 ⟨g5, gs5, rfl, hcs5, ho5, hb5⟩
  have T5 := bs T4 hb5
  have z5 := hb5.size
  replace r1 := r1.bs zt4 hb5
  replace r2 := r2.bs zt4 hb5
  replace r3 := r3.bs zt4 hb5
  replace o_t1 := o_t1.bs hb5
  replace kb0_0 := cell_later hb5 kb0_0
  have zt5 := T5.size
  clear T4 zt4 hb5
  have o_t2 := ho5
  clear ho5
  have bd_t2 : gs5.length + tot gs5 ≤ 1048576 := by have h1 := tot_cards hcs5; have h2 := (cards_same hcs5).1; omega
  go_wp2_with fail
  refine (toStringS_any _ _ _ _ (r3.more zt5) (by omega)).mono ?_; rintro e w6 ⟨g6, rfl, ho6, hb6⟩
  have T6 := bs T5 hb6
  have z6 := hb6.size
  replace r1 := r1.bs zt5 hb6
  replace r2 := r2.bs zt5 hb6
  replace r3 := r3.bs zt5 hb6
  replace o_t1 := o_t1.bs hb6
  replace o_t2 := o_t2.bs hb6
  replace kb0_0 := cell_later hb6 kb0_0
  have zt6 := T6.size
  clear T5 zt5 hb6
  have o_t3 := Ob.of ho6
  clear ho6
  go_wp2_with fail
  refine (spVerifyAll_w s0 (some ⟨g4, 0, none⟩) _ (xs1) (some ⟨g5, 0, none⟩) _ gs5 (cards hs2) (some ⟨g6, 0, none⟩) _ (ts3) _ hq0 o_t1.rd (by omega) (by omega) o_t2.rd hcs5 bd_t2 o_t2.cap.1 o_t3.rd (by omega) HTS3.out ).mono ?_; rintro e w7 ⟨Aw0, cw0, rfl, how0, hb7⟩
  have T7 := bs T6 hb7
  have z7 := hb7.size
  replace r1 := r1.bs zt6 hb7
  replace r2 := r2.bs zt6 hb7
  replace r3 := r3.bs zt6 hb7
  replace o_t1 := o_t1.bs hb7
  replace o_t2 := o_t2.bs hb7
  replace o_t3 := o_t3.bs hb7
  replace kb0_0 := cell_later hb7 kb0_0
  have zt7 := T7.size
  clear T6 zt6 hb7
  have o_w0 := Ob.of how0
  clear how0
  clear o_t1
  clear o_t2
  clear o_t3
  go_wp2_with fail
  refine (toCard_any _ _ _ _ (r1.more zt7) (by omega)).mono ?_; rintro e w8 ⟨g8, rfl, ho8, hb8⟩
  have T8 := bs T7 hb8
  have z8 := hb8.size
  replace r1 := r1.bs zt7 hb8
  replace r2 := r2.bs zt7 hb8
  replace r3 := r3.bs zt7 hb8
  replace o_w0 := o_w0.bs hb8
  replace kb0_0 := cell_later hb8 kb0_0
  have zt8 := T8.size
  clear T7 zt7 hb8
  have o_t4 := Ob.of ho8
  clear ho8
  have o_x1 := o_t4
  clear o_t4
  replace r1 := r1.alloc zt8 (.cells #[.slice (some ⟨g8, 0, none⟩) xs1.length xs1.length] 26)
  replace r2 := r2.alloc zt8 (.cells #[.slice (some ⟨g8, 0, none⟩) xs1.length xs1.length] 26)
  replace r3 := r3.alloc zt8 (.cells #[.slice (some ⟨g8, 0, none⟩) xs1.length xs1.length] 26)
  replace T8 := ba T8 (.cells #[.slice (some ⟨g8, 0, none⟩) xs1.length xs1.length] 26)
  replace o_w0 := o_w0.alloc (.cells #[.slice (some ⟨g8, 0, none⟩) xs1.length xs1.length] 26)
  replace o_x1 := o_x1.alloc (.cells #[.slice (some ⟨g8, 0, none⟩) xs1.length xs1.length] 26)
  replace kb0_0 := cell_alloc kb0_0 (.cells #[.slice (some ⟨g8, 0, none⟩) xs1.length xs1.length] 26)
  have kx_x1 : World.cell? (w8.alloc (.cells #[.slice (some ⟨g8, 0, none⟩) xs1.length xs1.length] 26)) ⟨w8.heap.size, 0, none⟩ = some (.slice (some ⟨g8, 0, none⟩) xs1.length xs1.length) := by simp
  replace zt8 := T8.size
  have zb_x1 : (World.heap (w8.alloc (.cells #[.slice (some ⟨g8, 0, none⟩) xs1.length xs1.length] 26))).size = w8.heap.size + 1 := by simp
  go_wp2_with fail
  refine (toCardS_any _ _ _ _ (r2.more zt8) (by omega)).mono ?_; rintro e w9 ⟨g9, gs9, rfl, hcs9, ho9, hb9⟩
  have T9 := bs T8 hb9
  have z9 := hb9.size
  simp only [World.size_alloc] at z9
  replace r1 := r1.bs zt8 hb9
  replace r2 := r2.bs zt8 hb9
  replace r3 := r3.bs zt8 hb9
  replace o_w0 := o_w0.bs hb9
  replace o_x1 := o_x1.bs hb9
  replace kb0_0 := cell_later hb9 kb0_0
  replace kx_x1 := cell_later hb9 kx_x1
  have zt9 := T9.size
  clear T8 zt8 hb9
  have o_t5 := ho9
  clear ho9
  have bd_t5 : gs9.length + tot gs9 ≤ 1048576 := by have h1 := tot_cards hcs9; have h2 := (cards_same hcs9).1; omega
  have o_x2 := o_t5
  clear o_t5
  go_wp2_with fail
  refine (toStringS_any _ _ _ _ (r3.more zt9) (by omega)).mono ?_; rintro e w10 ⟨g10, rfl, ho10, hb10⟩
  have T10 := bs T9 hb10
  have z10 := hb10.size
  replace r1 := r1.bs zt9 hb10
  replace r2 := r2.bs zt9 hb10
  replace r3 := r3.bs zt9 hb10
  replace o_w0 := o_w0.bs hb10
  replace o_x1 := o_x1.bs hb10
  replace o_x2 := o_x2.bs hb10
  replace kb0_0 := cell_later hb10 kb0_0
  replace kx_x1 := cell_later hb10 kx_x1
  have zt10 := T10.size
  clear T9 zt9 hb10
  have o_t6 := Ob.of ho10
  clear ho10
  have o_x3 := o_t6
  clear o_t6
  go_wp2_with fail
  refine (VerifyAll_w s0 (some ⟨g8, 0, none⟩) _ (xs1) (some ⟨g9, 0, none⟩) _ gs9 (cards hs2) (some ⟨g10, 0, none⟩) _ (ts3) _ hq0 o_x1.rd (by omega) (by omega) o_x2.rd hcs9 bd_t5 o_x2.cap.1 o_x3.rd (by omega) HTS3.out ).mono ?_; rintro e w11 ⟨Ag0, cg0, rfl, hog0, hb11⟩
  have T11 := bs T10 hb11
  have z11 := hb11.size
  replace r1 := r1.bs zt10 hb11
  replace r2 := r2.bs zt10 hb11
  replace r3 := r3.bs zt10 hb11
  replace o_w0 := o_w0.bs hb11
  replace o_x1 := o_x1.bs hb11
  replace o_x2 := o_x2.bs hb11
  replace o_x3 := o_x3.bs hb11
  replace kb0_0 := cell_later hb11 kb0_0
  replace kx_x1 := cell_later hb11 kx_x1
  have zt11 := T11.size
  clear T10 zt10 hb11
  have o_g0 := Ob.of hog0
  clear hog0
  go_wp2_with fail
  refine (eqInt64S_L _ _ _ _ (vaR s0 xs1 (cards hs2) ts3) _ o_g0.rd o_w0.rd (by omega)).mono ?_; rintro e w12 ⟨rfl, hb12⟩
  have T12 := bs T11 hb12
  have z12 := hb12.size
  replace r1 := r1.bs zt11 hb12
  replace r2 := r2.bs zt11 hb12
  replace r3 := r3.bs zt11 hb12
  replace o_w0 := o_w0.bs hb12
  replace o_x1 := o_x1.bs hb12
  replace o_x2 := o_x2.bs hb12
  replace o_x3 := o_x3.bs hb12
  replace o_g0 := o_g0.bs hb12
  replace kb0_0 := cell_later hb12 kb0_0
  replace kx_x1 := cell_later hb12 kx_x1
  have zt12 := T12.size
  clear T11 zt11 hb12
  go_wp2_with fail
  go_region_held3 (fun w' => w'.cell? ⟨w.heap.size, 0, none⟩ = some (.slice A1 xs1.length c1) ∧ w'.cell? ⟨w8.heap.size, 0, none⟩ = some (.slice (some ⟨g8, 0, none⟩) xs1.length xs1.length)) (first | exact ⟨kb0_0, kx_x1⟩ | go_keep)
    (first
      | (go_at_call 63; refine (toCard_any _ _ _ _ ?_ ?_).mono ?_; (first | exact (r1.more zt12) | exact ((r1.more zt12)).drew); (omega); rintro e w13 ⟨g13, rfl, ho13, hb13⟩; have hb13 : Below w12.heap.size w12 w13 := ⟨hb13.os, hb13.tape, hb13.output, hb13.size, hb13.block⟩; have ho13 : World.ownsRow w13 w12.heap.size _ _ _ _ _ := ho13; have T13 := bs T12 hb13; have z13 := hb13.size; replace r1 := r1.bs zt12 hb13; replace r2 := r2.bs zt12 hb13; replace r3 := r3.bs zt12 hb13; replace o_w0 := o_w0.bs hb13; replace o_x1 := o_x1.bs hb13; replace o_x2 := o_x2.bs hb13; replace o_x3 := o_x3.bs hb13; replace o_g0 := o_g0.bs hb13; replace kb0_0 := cell_later hb13 kb0_0; replace kx_x1 := cell_later hb13 kx_x1; have zt13 := T13.size; clear T12 zt12 hb13; have o_t7 := Ob.of ho13; clear ho13)
      | (go_at_call 68; refine (eqCard_same _ _ _ _ (xs1) _ ?_ ?_ ?_).mono ?_; (first | exact o_x1.rd | exact (o_x1.rd).drew); (first | exact o_t7.rd | exact (o_t7.rd).drew); (omega); rintro e w14 ⟨rfl, hb14⟩; have hb14 : Below w13.heap.size w13 w14 := ⟨hb14.os, hb14.tape, hb14.output, hb14.size, hb14.block⟩; have T14 := bs T13 hb14; have z14 := hb14.size; replace r1 := r1.bs zt13 hb14; replace r2 := r2.bs zt13 hb14; replace r3 := r3.bs zt13 hb14; replace o_w0 := o_w0.bs hb14; replace o_x1 := o_x1.bs hb14; replace o_x2 := o_x2.bs hb14; replace o_x3 := o_x3.bs hb14; replace o_g0 := o_g0.bs hb14; replace o_t7 := o_t7.bs hb14; replace kb0_0 := cell_later hb14 kb0_0; replace kx_x1 := cell_later hb14 kx_x1; have zt14 := T14.size; clear T13 zt13 hb14)
    )
  clear o_t7
  go_wp2_with fail
  refine (toCardS_any _ _ _ _ (r2.more zt14) (by omega)).mono ?_; rintro e w15 ⟨g15, gs15, rfl, hcs15, ho15, hb15⟩
  have T15 := bs T14 hb15
  have z15 := hb15.size
  replace r1 := r1.bs zt14 hb15
  replace r2 := r2.bs zt14 hb15
  replace r3 := r3.bs zt14 hb15
  replace o_w0 := o_w0.bs hb15
  replace o_x1 := o_x1.bs hb15
  replace o_x2 := o_x2.bs hb15
  replace o_x3 := o_x3.bs hb15
  replace o_g0 := o_g0.bs hb15
  replace kb0_0 := cell_later hb15 kb0_0
  replace kx_x1 := cell_later hb15 kx_x1
  have zt15 := T15.size
  clear T14 zt14 hb15
  have o_t8 := ho15
  clear ho15
  have bd_t8 : gs15.length + tot gs15 ≤ 1048576 := by have h1 := tot_cards hcs15; have h2 := (cards_same hcs15).1; omega
  go_wp2_with fail
  refine (eqCardS_same _ _ _ _ gs9 gs15 _ o_x2.rd o_t8.rd (hcs9.trans hcs15.symm) bd_t5).mono ?_; rintro e w16 ⟨rfl, hb16⟩
  have T16 := bs T15 hb16
  have z16 := hb16.size
  replace r1 := r1.bs zt15 hb16
  replace r2 := r2.bs zt15 hb16
  replace r3 := r3.bs zt15 hb16
  replace o_w0 := o_w0.bs hb16
  replace o_x1 := o_x1.bs hb16
  replace o_x2 := o_x2.bs hb16
  replace o_x3 := o_x3.bs hb16
  replace o_g0 := o_g0.bs hb16
  replace o_t8 := o_t8.bs hb16
  replace kb0_0 := cell_later hb16 kb0_0
  replace kx_x1 := cell_later hb16 kx_x1
  have zt16 := T16.size
  clear T15 zt15 hb16
  clear o_t8
  go_wp2_with fail
  refine (toStringS_any _ _ _ _ (r3.more zt16) (by omega)).mono ?_; rintro e w17 ⟨g17, rfl, ho17, hb17⟩
  have T17 := bs T16 hb17
  have z17 := hb17.size
  replace r1 := r1.bs zt16 hb17
  replace r2 := r2.bs zt16 hb17
  replace r3 := r3.bs zt16 hb17
  replace o_w0 := o_w0.bs hb17
  replace o_x1 := o_x1.bs hb17
  replace o_x2 := o_x2.bs hb17
  replace o_x3 := o_x3.bs hb17
  replace o_g0 := o_g0.bs hb17
  replace kb0_0 := cell_later hb17 kb0_0
  replace kx_x1 := cell_later hb17 kx_x1
  have zt17 := T17.size
  clear T16 zt16 hb17
  have o_t9 := Ob.of ho17
  clear ho17
  go_wp2_with fail
  refine (eqStringS_L _ _ _ _ (ts3) _ o_x3.rd o_t9.rd (by omega)).mono ?_; rintro e w18 ⟨rfl, hb18⟩
  have T18 := bs T17 hb18
  have z18 := hb18.size
  replace r1 := r1.bs zt17 hb18
  replace r2 := r2.bs zt17 hb18
  replace r3 := r3.bs zt17 hb18
  replace o_w0 := o_w0.bs hb18
  replace o_x1 := o_x1.bs hb18
  replace o_x2 := o_x2.bs hb18
  replace o_x3 := o_x3.bs hb18
  replace o_g0 := o_g0.bs hb18
  replace o_t9 := o_t9.bs hb18
  replace kb0_0 := cell_later hb18 kb0_0
  replace kx_x1 := cell_later hb18 kx_x1
  have zt18 := T18.size
  clear T17 zt17 hb18
  clear o_t9
  go_wp2_with fail
  refine (markCard_any _ _ _ _ _ _ _ o_x1.1 (by omega) (by omega) (by omega)).mono ?_; rintro e w19 ⟨rfl, ho19, hg19⟩
  have cg19 := o_x1.turns hg19
  have z19 := cg19.size
  have T19 := cg19.below T18 (by omega) zt18
  replace r1 := cg19.rd r1 (by omega) zt18
  replace r2 := cg19.rdD r2 (by omega) zt18
  replace r3 := cg19.rd r3 (by omega) zt18
  replace o_w0 := o_w0.chg cg19 (by omega)
  replace o_x2 := o_x2.chg cg19 (by omega)
  replace o_x3 := o_x3.chg cg19 (by omega)
  replace o_g0 := o_g0.chg cg19 (by omega)
  replace o_x1 := o_x1.marked ho19
  replace kb0_0 := cg19.cell kb0_0 (by omega)
  replace kx_x1 := cg19.cell kx_x1 (by omega)
  clear cg19 hg19 ho19
  have zt19 := T19.size
  clear T18 zt18
  go_wp2_with fail
  refine (markCardS_any _ _ _ _ _ _ _ o_x2 bd_t5 (by omega) (by omega)).mono ?_; rintro e w20 ⟨rfl, ho20, hg20⟩
  have cg20 := hg20
  have z20 := cg20.size
  have T20 := cg20.below T19 (by omega) zt19
  replace r1 := cg20.rd r1 (by omega) zt19
  replace r2 := cg20.rdD r2 (by omega) zt19
  replace r3 := cg20.rd r3 (by omega) zt19
  replace o_w0 := o_w0.chg cg20 (by omega)
  replace o_x1 := o_x1.chg cg20 (by omega)
  replace o_x3 := o_x3.chg cg20 (by omega)
  replace o_g0 := o_g0.chg cg20 (by omega)
  replace o_x2 := ho20
  replace kb0_0 := cg20.cell kb0_0 (by omega)
  replace kx_x1 := cg20.cell kx_x1 (by omega)
  clear cg20 hg20 ho20
  have zt20 := T20.size
  clear T19 zt19
  go_wp2_with fail
  refine (markStringS_any _ _ _ _ _ _ _ _ o_x3 (by omega) (by omega) (by omega) (by omega)).mono ?_; rintro e w21 ⟨rfl, ⟨zs21, ho21⟩, hg21⟩
  have cg21 := hg21
  have z21 := cg21.size
  have T21 := cg21.below T20 (by omega) zt20
  replace r1 := cg21.rd r1 (by omega) zt20
  replace r2 := cg21.rdD r2 (by omega) zt20
  replace r3 := cg21.rd r3 (by omega) zt20
  replace o_w0 := o_w0.chg cg21 (by omega)
  replace o_x1 := o_x1.chg cg21 (by omega)
  replace o_x2 := o_x2.chg cg21 (by omega)
  replace o_g0 := o_g0.chg cg21 (by omega)
  replace o_x3 := ho21
  replace kb0_0 := cg21.cell kb0_0 (by omega)
  replace kx_x1 := cg21.cell kx_x1 (by omega)
  clear cg21 hg21 ho21
  have zt21 := T21.size
  clear T20 zt20
  go_wp2_with fail
  refine (eqInt64S_L _ _ _ _ (vaR s0 xs1 (cards hs2) ts3) _ o_g0.rd o_w0.rd (by omega)).mono ?_; rintro e w22 ⟨rfl, hb22⟩
  have T22 := bs T21 hb22
  have z22 := hb22.size
  replace r1 := r1.bs zt21 hb22
  replace r2 := r2.bs zt21 hb22
  replace r3 := r3.bs zt21 hb22
  replace o_w0 := o_w0.bs hb22
  replace o_x1 := o_x1.bs hb22
  replace o_x2 := o_x2.bs hb22
  replace o_x3 := o_x3.bs hb22
  replace o_g0 := o_g0.bs hb22
  replace kb0_0 := cell_later hb22 kb0_0
  replace kx_x1 := cell_later hb22 kx_x1
  have zt22 := T22.size
  clear T21 zt21 hb22
  go_wp2_with fail
  refine (markInt64S_any _ _ _ _ _ _ _ o_g0.1 (by omega) (by omega) (by omega)).mono ?_; rintro e w23 ⟨rfl, ho23, hg23⟩
  have cg23 := o_g0.turns hg23
  have z23 := cg23.size
  have T23 := cg23.below T22 (by omega) zt22
  replace r1 := cg23.rd r1 (by omega) zt22
  replace r2 := cg23.rdD r2 (by omega) zt22
  replace r3 := cg23.rd r3 (by omega) zt22
  replace o_w0 := o_w0.chg cg23 (by omega)
  replace o_x1 := o_x1.chg cg23 (by omega)
  replace o_x2 := o_x2.chg cg23 (by omega)
  replace o_x3 := o_x3.chg cg23 (by omega)
  replace o_g0 := o_g0.marked ho23
  replace kb0_0 := cg23.cell kb0_0 (by omega)
  replace kx_x1 := cg23.cell kx_x1 (by omega)
  clear cg23 hg23 ho23
  have zt23 := T23.size
  clear T22 zt22
  go_wp2_with fail
  refine (heldInt64S_L _ _ _ _ _ o_g0.rd (by omega) (by omega) (by omega)).mono ?_; rintro e w24 ⟨rfl, hb24⟩
  have T24 := bs T23 hb24
  have z24 := hb24.size
  replace r1 := r1.bs zt23 hb24
  replace r2 := r2.bs zt23 hb24
  replace r3 := r3.bs zt23 hb24
  replace o_w0 := o_w0.bs hb24
  replace o_x1 := o_x1.bs hb24
  replace o_x2 := o_x2.bs hb24
  replace o_x3 := o_x3.bs hb24
  replace o_g0 := o_g0.bs hb24
  replace kb0_0 := cell_later hb24 kb0_0
  replace kx_x1 := cell_later hb24 kx_x1
  have zt24 := T24.size
  clear T23 zt23 hb24
  go_wp2_with fail
  refine (toCard_any _ _ _ _ (r1.more zt24) (by omega)).mono ?_; rintro e w25 ⟨g25, rfl, ho25, hb25⟩
  have T25 := bs T24 hb25
  have z25 := hb25.size
  replace r1 := r1.bs zt24 hb25
  replace r2 := r2.bs zt24 hb25
  replace r3 := r3.bs zt24 hb25
  replace o_w0 := o_w0.bs hb25
  replace o_x1 := o_x1.bs hb25
  replace o_x2 := o_x2.bs hb25
  replace o_x3 := o_x3.bs hb25
  replace o_g0 := o_g0.bs hb25
  replace kb0_0 := cell_later hb25 kb0_0
  replace kx_x1 := cell_later hb25 kx_x1
  have zt25 := T25.size
  clear T24 zt24 hb25
  have o_t10 := Ob.of ho25
  clear ho25
  go_wp2_with fail
  refine (toCardS_any _ _ _ _ (r2.more zt25) (by omega)).mono ?_; rintro e w26 ⟨g26, gs26, rfl, hcs26, ho26, hb26⟩
  have T26 := bs T25 hb26
  have z26 := hb26.size
  replace r1 := r1.bs zt25 hb26
  replace r2 := r2.bs zt25 hb26
  replace r3 := r3.bs zt25 hb26
  replace o_w0 := o_w0.bs hb26
  replace o_x1 := o_x1.bs hb26
  replace o_x2 := o_x2.bs hb26
  replace o_x3 := o_x3.bs hb26
  replace o_g0 := o_g0.bs hb26
  replace o_t10 := o_t10.bs hb26
  replace kb0_0 := cell_later hb26 kb0_0
  replace kx_x1 := cell_later hb26 kx_x1
  have zt26 := T26.size
  clear T25 zt25 hb26
  have o_t11 := ho26
  clear ho26
  have bd_t11 : gs26.length + tot gs26 ≤ 1048576 := by have h1 := tot_cards hcs26; have h2 := (cards_same hcs26).1; omega
  go_wp2_with fail
  refine (toStringS_any _ _ _ _ (r3.more zt26) (by omega)).mono ?_; rintro e w27 ⟨g27, rfl, ho27, hb27⟩
  have T27 := bs T26 hb27
  have z27 := hb27.size
  replace r1 := r1.bs zt26 hb27
  replace r2 := r2.bs zt26 hb27
  replace r3 := r3.bs zt26 hb27
  replace o_w0 := o_w0.bs hb27
  replace o_x1 := o_x1.bs hb27
  replace o_x2 := o_x2.bs hb27
  replace o_x3 := o_x3.bs hb27
  replace o_g0 := o_g0.bs hb27
  replace o_t10 := o_t10.bs hb27
  replace o_t11 := o_t11.bs hb27
  replace kb0_0 := cell_later hb27 kb0_0
  replace kx_x1 := cell_later hb27 kx_x1
  have zt27 := T27.size
  clear T26 zt26 hb27
  have o_t12 := Ob.of ho27
  clear ho27
  go_wp2_with fail
  refine (VerifyAll_w s0 (some ⟨g25, 0, none⟩) _ (xs1) (some ⟨g26, 0, none⟩) _ gs26 (cards hs2) (some ⟨g27, 0, none⟩) _ (ts3) _ hq0 o_t10.rd (by omega) (by omega) o_t11.rd hcs26 bd_t11 o_t11.cap.1 o_t12.rd (by omega) HTS3.out ).mono ?_; rintro e w28 ⟨Ah0, ch0, rfl, hoh0, hb28⟩
  have T28 := bs T27 hb28
  have z28 := hb28.size
  replace r1 := r1.bs zt27 hb28
  replace r2 := r2.bs zt27 hb28
  replace r3 := r3.bs zt27 hb28
  replace o_w0 := o_w0.bs hb28
  replace o_x1 := o_x1.bs hb28
  replace o_x2 := o_x2.bs hb28
  replace o_x3 := o_x3.bs hb28
  replace o_g0 := o_g0.bs hb28
  replace o_t10 := o_t10.bs hb28
  replace o_t11 := o_t11.bs hb28
  replace o_t12 := o_t12.bs hb28
  replace kb0_0 := cell_later hb28 kb0_0
  replace kx_x1 := cell_later hb28 kx_x1
  have zt28 := T28.size
  clear T27 zt27 hb28
  have o_h0 := Ob.of hoh0
  clear hoh0
  clear o_t10
  clear o_t11
  clear o_t12
  go_wp2_with fail
  refine (eqInt64S_L _ _ _ _ (vaR s0 xs1 (cards hs2) ts3) _ o_h0.rd o_w0.rd (by omega)).mono ?_; rintro e w29 ⟨rfl, hb29⟩
  have T29 := bs T28 hb29
  have z29 := hb29.size
  replace r1 := r1.bs zt28 hb29
  replace r2 := r2.bs zt28 hb29
  replace r3 := r3.bs zt28 hb29
  replace o_w0 := o_w0.bs hb29
  replace o_x1 := o_x1.bs hb29
  replace o_x2 := o_x2.bs hb29
  replace o_x3 := o_x3.bs hb29
  replace o_g0 := o_g0.bs hb29
  replace o_h0 := o_h0.bs hb29
  replace kb0_0 := cell_later hb29 kb0_0
  replace kx_x1 := cell_later hb29 kx_x1
  have zt29 := T29.size
  clear T28 zt28 hb29
  go_wp2_with fail
  refine (heldInt64S_L _ _ _ _ _ o_g0.rd (by omega) (by omega) (by omega)).mono ?_; rintro e w30 ⟨rfl, hb30⟩
  have T30 := bs T29 hb30
  have z30 := hb30.size
  replace r1 := r1.bs zt29 hb30
  replace r2 := r2.bs zt29 hb30
  replace r3 := r3.bs zt29 hb30
  replace o_w0 := o_w0.bs hb30
  replace o_x1 := o_x1.bs hb30
  replace o_x2 := o_x2.bs hb30
  replace o_x3 := o_x3.bs hb30
  replace o_g0 := o_g0.bs hb30
  replace o_h0 := o_h0.bs hb30
  replace kb0_0 := cell_later hb30 kb0_0
  replace kx_x1 := cell_later hb30 kx_x1
  have zt30 := T30.size
  clear T29 zt29 hb30
  go_wp2
  go_ret
  exact ⟨rfl, T30⟩

set_option maxRecDepth 100000 in
set_option maxHeartbeats 1000000 in
theorem lawVerifyAll_lifted (os : Os) (started : os.Started) (H : Type) (enc : TypeId × Value → H) :
    ReturnsInHanded {} Try.checked os 6 .any (Rows.fnExactVerifyAllSpec.pre6 enc Try.prog Try.f6 Rows.fnExactVerifyAllRow.domain false) (Rows.fnExactVerifyAllSpec.post enc Try.prog Try.f6 false true false false) := by
  refine returnsInHanded_of_change (C := Try.checked) lawOwn started (by kernel_rfl) Try.func6
    (ChangeSpec.witness6 (enc := enc) (C := Try.checked) false ⟨#[], #[.string ⟨#[]⟩, .agg #[.slice none 0 0], .slice none 0 0, .slice none 0 0], []⟩ 8 (by kernel_rfl) (by kernel_rfl) (by kernel_rfl) (by kernel_rfl)) ?_
  intro W base args ds gs before hval0 hW _ _
  have hval : ∀ (j : Nat) t v, Try.f6.params[j]? = some t → args[j]? = some v → Value.okWide Try.prog W .any base t v := hval0
  clear hval0
  have hW0 : DataW.Whole enc Try.prog Try.f6.params.toList Rows.fnExactVerifyAllSpec.vars false W args.toList ds gs before := hW
  clear hW
  have hW := hW0
  obtain ⟨p, q, hA, hV, _, _, _⟩ := hW
  rw [Try.params6] at hA hval
  obtain ⟨v0, vs0, d0, ds0, p0, q0, hargs, rfl, rfl, h0, hA0⟩ := trodAll_cons hA
  obtain ⟨v1, vs1, d1, ds1, p1, q1, rfl, rfl, rfl, h1, hA1⟩ := trodAll_cons hA0
  obtain ⟨v2, vs2, d2, ds2, p2, q2, rfl, rfl, rfl, h2, hA2⟩ := trodAll_cons hA1
  obtain ⟨v3, vs3, d3, ds3, p3, q3, rfl, rfl, rfl, h3, hA3⟩ := trodAll_cons hA2
  obtain ⟨rfl, rfl, rfl⟩ := trodAll_nil hA3
  have hargs2 : args = #[v0, v1, v2, v3] := by cases args; simp_all
  clear hargs
  subst hargs2
  obtain ⟨s0, rfl, _, _, hm0⟩ := Go.ChangeMaps.open_string Try.underlying9 (hval 0 9 v0 rfl rfl) h0
  obtain ⟨A1, c1, xs1, rfl, hc1, hm1, r1, hz1⟩ := in_card Try.underlying71 (by kernel_rfl) (by kernel_rfl) rfl Try.underlying24 Try.underlying2 (by kernel_rfl) (hval 1 71 v1 rfl rfl) h1
  obtain ⟨D2, c2, hs2, rfl, hc2, hm2, r2, hz2⟩ := in_deck Try.underlying72 Try.underlying71 (by kernel_rfl) (by kernel_rfl) rfl Try.underlying24 Try.underlying2 (by kernel_rfl) (hval 2 72 v2 rfl rfl) h2
  obtain ⟨K3, c3, ts3, rfl, hc3, hm3, r3, hz3⟩ := in_strs Try.underlying73 Try.underlying9 (by kernel_rfl) (hval 3 73 v3 rfl rfl) h3
  have hcall : Calls Try.prog 6 #[.string s0, .agg #[.slice A1 xs1.length c1], .slice D2 hs2.length c2, .slice K3 ts3.length c3] W fun e W' => e = .returned (.bool true) ∧ Below W.heap.size W W' := by
    by_cases hq0 : s0.size ≤ 1048576
    case neg => exact lawVerifyAll_big0 s0 A1 c1 xs1 D2 c2 hs2 K3 c3 ts3 W r1 r2 r3  hq0 hm0
    by_cases sx0 : xs1.length ≤ 1048576
    case neg => exact lawVerifyAll_no0 s0 A1 c1 xs1 D2 c2 hs2 K3 c3 ts3 W hq0 r1 r2 r3  sx0 (by omega)
    by_cases sx1 : xs1.length + (hs2.length + tot hs2) ≤ 1048576
    case neg => exact lawVerifyAll_no1 s0 A1 c1 xs1 D2 c2 hs2 K3 c3 ts3 W hq0 r1 r2 r3 sx0 sx1 ⟨by omega, fun h hh => Nat.le_trans (r2.cap h hh) (hz2 h hh).1⟩
    by_cases sx2 : xs1.length + (hs2.length + tot hs2) + (ts3.length + stot ts3) ≤ 1048576
    case neg => exact lawVerifyAll_no2 s0 A1 c1 xs1 D2 c2 hs2 K3 c3 ts3 W hq0 r1 r2 r3 sx1 sx2 ⟨by omega, hz3⟩
    exact lawVerifyAll_yes s0 A1 c1 xs1 D2 c2 hs2 K3 c3 ts3 W hq0 r1 r2 r3 sx2
  refine hcall.mono fun e W' ⟨he, hb⟩ => ⟨_, he, ?_⟩
  exact post_law (f := Try.f6) (s := Rows.fnExactVerifyAllSpec) hW0 rfl (tb := 4) rfl Try.underlying4 rfl lawLaid (by kernel_rfl) hb

theorem fnExactVerifyAll_holds : Rows.FnExactVerifyAllSaid :=
  OpenClaim.holds_of_wide 6 Try.f6 rfl rfl rfl rfl rfl rfl rfl ⟨rfl, rfl, rfl, rfl, rfl⟩ rfl rfl rfl rfl rfl (by kernel_rfl) Try.func6 (by kernel_rfl)
    (of_decide_eq_true (by kernel_rfl)) (by unfold Func.isWrapper; first | (rw [if_pos (by decide +kernel)]; kernel_rfl) | (rw [if_neg (by decide +kernel)]; exact ⟨rfl, rfl⟩))
    (fun os started H enc _ => lawVerifyAll_lifted os started H enc)
#print axioms fnExactVerifyAll_holds
end Go.Proofs.Ythbgdnjlmaadjaa
