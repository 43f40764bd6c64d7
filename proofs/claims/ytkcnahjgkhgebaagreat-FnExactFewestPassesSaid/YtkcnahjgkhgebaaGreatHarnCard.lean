/- The harness over cards: a struct with one slice of int64. -/
import Derived.Test.YtkcnahjgkhgebaaGreatHarnInts
namespace Go.Proofs.YtkcnahjgkhgebaaGreat
open Go.RowKit

set_option maxHeartbeats 400000 in
theorem szCard_yes (A : Option Addr) (n c : Nat) (l : Int) (w : World) (h0 : (n : Int) ≤ l) (h1 : l ≤ 1048576) :
    Calls Tryz.prog 22 #[.agg #[.slice A n c], .int .i64 l] w fun e w' => e = .returned (.int .i64 (l - n)) ∧ Below w.heap.size w w' := by
  have h2 : ¬ (l - (n : Int) < 0) := by omega
  go_enter Tryz.func22, Tryz.ntmps22
  go_wp2_with (go_at_call 54; refine (szInt64S_yes _ _ _ _ _ h0 h1).mono ?_; rintro e w' ⟨rfl, rfl⟩)
  go_ret
  exact ⟨rfl, (Below.refl _ _).alloc (Nat.le_refl _) _⟩
set_option maxRecDepth 100000 in
theorem szCard_no (A : Option Addr) (n c : Nat) (l : Int) (w : World) (h0 : l < (n : Int)) (h1 : 0 ≤ l) (h2 : n ≤ maxLen) (h3 : l ≤ 1048576) :
    Calls Tryz.prog 22 #[.agg #[.slice A n c], .int .i64 l] w fun e w' => e = .returned (.int .i64 (-1)) ∧ Below w.heap.size w w' := by
  go_enter Tryz.func22, Tryz.ntmps22
  go_wp2_with (go_at_call 54; refine (szInt64S_no _ _ _ _ _ h0 h1 h2 h3).mono ?_; rintro e w' ⟨rfl, rfl⟩)
  go_ret
  exact ⟨rfl, (Below.refl _ _).alloc (Nat.le_refl _) _⟩

theorem eqCard_same (A A' : Option Addr) (c c' : Nat) (xs : List Int) (w : World) (ha : Rd w w.heap.size 1 A xs.length (ints xs)) (hb : Rd w w.heap.size 1 A' xs.length (ints xs)) (hl : xs.length ≤ 1048576) :
    Calls Tryz.prog 36 #[.agg #[.slice A xs.length c], .agg #[.slice A' xs.length c']] w fun e w' => e = .returned (.bool true) ∧ Below w.heap.size w w' := by
  go_enter Tryz.func36, Tryz.ntmps36
  go_wp2_with (go_at_call 72; refine (eqInt64S_same _ _ _ _ _ _ _ ((ha.a1 _).a1 _) ((hb.a1 _).a1 _) hl).mono ?_; rintro e w' ⟨rfl, n, rfl⟩)
  go_ret
  exact ⟨rfl, below_drewN (((Below.refl _ _).alloc (Nat.le_refl _) _).alloc (by simp) _) _⟩

theorem toCard_any (A : Option Addr) (c : Nat) (xs : List Int) (w : World) (ha : Rd w w.heap.size 1 A xs.length (ints xs)) (hl : xs.length ≤ 1048576) :
    Calls Tryz.prog 27 #[.agg #[.slice A xs.length c]] w fun e w' => ∃ g, e = .returned (.agg #[.slice (some ⟨g, 0, none⟩) xs.length xs.length]) ∧
      w'.ownsRow w.heap.size 2 1 (.slice (some ⟨g, 0, none⟩) xs.length xs.length) xs.length (ints xs) ∧ Below w.heap.size w w' := by
  go_enter Tryz.func27, Tryz.ntmps27
  go_wp2_with (go_at_call 59; refine (toInt64S_any _ _ _ _ (((ha.a1 _).a1 _).a1 _) hl).mono ?_; rintro e w1 ⟨g, rfl, ho, hb⟩; have hc := fun b o h => hb.cell (p := ⟨b, o, none⟩) h; have hf := fun b o h => hb.frozen (p := ⟨b, o, none⟩) h; have hz := hb.size)
  refine bodyPost_ret (v := .agg #[.slice (some ⟨g, 0, none⟩) xs.length xs.length]) (by simp [results, Tryz.results27, go_sem, hc]) rfl ⟨g, rfl, ?_, ?_⟩
  · exact own_base (own_below (own_below ho _ _ _ (by simp)) _ _ _ (by simp)) (by simp; omega)
  · exact bset (bset (bs (ba (ba (ba (b0 _) _) _) _) hb) _ _ _ (by omega)) _ _ _ (by omega)

end Go.Proofs.YtkcnahjgkhgebaaGreat
