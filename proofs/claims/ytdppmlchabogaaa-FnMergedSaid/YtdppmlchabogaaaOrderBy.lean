/- OrderBy; in the program and in the reference. -/
import Derived.Test.YtdppmlchabogaaaOrder
import Derived.Test.YtdppmlchabogaaaPlaces
import Derived.Test.YtdppmlchabogaaaGroups
namespace Go.Proofs.Ytdppmlchabogaaa
open Go.RowKit

def ordRes (L : List (List Int)) (a b : Int) : List Int := if codeK L a b = 0 then ordL L a b else []
theorem ordRes_0 {L : List (List Int)} {a b : Int} (h : codeK L a b = 0) : ordRes L a b = ordL L a b := by unfold ordRes; rw [if_pos h]
theorem ordRes_1 {L : List (List Int)} {a b : Int} (h : codeK L a b ≠ 0) : ordRes L a b = [] := by unfold ordRes; rw [if_neg h]
theorem ordRes_len (L : List (List Int)) (a b : Int) : (ordRes L a b).length ≤ 40 := by
  by_cases h : codeK L a b = 0
  · rw [ordRes_0 h, ordL_length]
    exact deckOk_len (codeK_zero h).1
  · rw [ordRes_1 h]
    simp

set_option maxHeartbeats 4000000 in
theorem OrderBy_any (D : Option Addr) (c : Nat) (hs : List Hd) (L : List (List Int)) (a b : Int) (w : World) (ha : RdD w w.heap.size D hs) (hL : cards hs = L) (hl : hs.length + tot hs ≤ 1048576) (_hc : hs.length ≤ c) :
    Calls Try.prog 16 #[.slice D hs.length c, .agg #[.int .i64 a, .int .i64 b]] w fun e w' => ∃ G cg, e = .returned (.tuple #[.slice G (ordRes L a b).length cg, .int .i64 (codeK L a b)]) ∧
      w'.ownsRow w.heap.size 2 1 (.slice G (ordRes L a b).length cg) (ordRes L a b).length (ints (ordRes L a b)) ∧ Below w.heap.size w w' := by
  subst hL
  have T0 : Below w.heap.size w (w.alloc (.cells #[.int .i64 a, .int .i64 b] 27)) := ba (b0 w) _
  have ra := ha.a1 (.cells #[.int .i64 a, .int .i64 b] 27)
  have HCL := Lib.hid (cards_length hs)
  by_cases hz : codeK (cards hs) a b = 0
  · obtain ⟨h1, h2, h3⟩ := codeK_zero hz
    obtain ⟨i, j, rfl, rfl, hij, hjw⟩ := fieldOk_nat h2
    have HZ := Lib.hid hz
    have H1 := Lib.hid h1
    have HR := Lib.hid (ordRes_0 hz)
    have HRL := Lib.hid (show (ordRes (cards hs) (i : Int) (j : Int)).length = hs.length by rw [ordRes_0 hz, ordL_length, cards_length])
    clear hz h1 h2 h3
    go_enter Try.func16, Try.ntmps16
    go_wp2_with fail
    refine (sortCode_any _ _ hs _ _ _ ra hl).mono ?_; rintro e w1 ⟨rfl, hb1⟩
    have k2 : w1.cell? ⟨w.heap.size, 0, none⟩ = some (.int .i64 (i : Int)) := cell_later hb1 (cell_new rfl rfl)
    have k3 : w1.cell? ⟨w.heap.size, 1, none⟩ = some (.int .i64 (j : Int)) := cell_later hb1 (cell_new rfl rfl)
    have e0 : codeK (cards hs) (i : Int) (j : Int) = 0 := HZ.out
    have T1 := bs T0 hb1
    go_wp2_with fail
    refine (orderBy_any _ _ hs i j _ (ra.up hb1) H1.out hij hjw hl).mono ?_; rintro e w2 ⟨G, cg, rfl, hown, hb2⟩
    clear e0
    go_wp2
    go_ret2
    refine ⟨G, cg, ret_kk HZ.out.symm HRL.out.symm, ?_, bs T1 hb2⟩
    rw [HRL.out, HR.out]
    exact own_base hown T1.size
  · have HR := Lib.hid (ordRes_1 hz)
    go_enter Try.func16, Try.ntmps16
    go_wp2_with fail
    refine (sortCode_any _ _ hs _ _ _ ra hl).mono ?_; rintro e w1 ⟨rfl, hb1⟩
    go_wp2
    go_ret2
    exact ⟨none, 0, ret_kk rfl (by rw [HR.out]; rfl), own_nilI _ _ HR.out, bs T0 hb1⟩

end Go.Proofs.Ytdppmlchabogaaa
