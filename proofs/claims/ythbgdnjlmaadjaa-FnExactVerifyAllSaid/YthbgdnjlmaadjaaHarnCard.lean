/- The harness over cards: a struct with one slice of int64. -/
import Derived.Test.YthbgdnjlmaadjaaHarnInts
namespace Go.Proofs.Ythbgdnjlmaadjaa
open Go.RowKit

set_option maxHeartbeats 400000 in
theorem szCard_yes (A : Option Addr) (n c : Nat) (l : Int) (w : World) (h0 : (n : Int) ≤ l) (h1 : l ≤ 1048576) :
    Calls Try.prog 59 #[.agg #[.slice A n c], .int .i64 l] w fun e w' => e = .returned (.int .i64 (l - n)) ∧ Below w.heap.size w w' := by
  have h2 : ¬ (l - (n : Int) < 0) := by omega
  go_enter Try.func59, Try.ntmps59
  go_wp2_with (go_at_call 139; refine (szInt64S_yes _ _ _ _ _ h0 h1).mono ?_; rintro e w' ⟨rfl, rfl⟩)
  go_ret
  exact ⟨rfl, (Below.refl _ _).alloc (Nat.le_refl _) _⟩
set_option maxRecDepth 100000 in
theorem szCard_no (A : Option Addr) (n c : Nat) (l : Int) (w : World) (h0 : l < (n : Int)) (h1 : 0 ≤ l) (h2 : n ≤ maxLen) (h3 : l ≤ 1048576) :
    Calls Try.prog 59 #[.agg #[.slice A n c], .int .i64 l] w fun e w' => e = .returned (.int .i64 (-1)) ∧ Below w.heap.size w w' := by
  go_enter Try.func59, Try.ntmps59
  go_wp2_with (go_at_call 139; refine (szInt64S_no _ _ _ _ _ h0 h1 h2 h3).mono ?_; rintro e w' ⟨rfl, rfl⟩)
  go_ret
  exact ⟨rfl, (Below.refl _ _).alloc (Nat.le_refl _) _⟩

theorem eqCard_same (A A' : Option Addr) (c c' : Nat) (xs : List Int) (w : World) (ha : Rd w w.heap.size 1 A xs.length (ints xs)) (hb : Rd w w.heap.size 1 A' xs.length (ints xs)) (hl : xs.length ≤ 1048576) :
    Calls Try.prog 68 #[.agg #[.slice A xs.length c], .agg #[.slice A' xs.length c']] w fun e w' => e = .returned (.bool true) ∧ Below w.heap.size w w' := by
  go_enter Try.func68, Try.ntmps68
  go_wp2_with (go_at_call 67; refine (eqInt64S_same _ _ _ _ _ _ _ ((ha.a1 _).a1 _) ((hb.a1 _).a1 _) hl).mono ?_; rintro e w' ⟨rfl, n, rfl⟩)
  go_ret
  exact ⟨rfl, below_drewN (((Below.refl _ _).alloc (Nat.le_refl _) _).alloc (by simp) _) _⟩

theorem toCard_any (A : Option Addr) (c : Nat) (xs : List Int) (w : World) (ha : Rd w w.heap.size 1 A xs.length (ints xs)) (hl : xs.length ≤ 1048576) :
    Calls Try.prog 63 #[.agg #[.slice A xs.length c]] w fun e w' => ∃ g, e = .returned (.agg #[.slice (some ⟨g, 0, none⟩) xs.length xs.length]) ∧
      w'.ownsRow w.heap.size 2 1 (.slice (some ⟨g, 0, none⟩) xs.length xs.length) xs.length (ints xs) ∧ Below w.heap.size w w' := by
  go_enter Try.func63, Try.ntmps63
  go_wp2_with (go_at_call 140; refine (toInt64S_any _ _ _ _ (((ha.a1 _).a1 _).a1 _) hl).mono ?_; rintro e w1 ⟨g, rfl, ho, hb⟩; have hc := fun b o h => hb.cell (p := ⟨b, o, none⟩) h; have hf := fun b o h => hb.frozen (p := ⟨b, o, none⟩) h; have hz := hb.size)
  refine bodyPost_ret (v := .agg #[.slice (some ⟨g, 0, none⟩) xs.length xs.length]) (by simp [results, Try.results63, go_sem, hc]) rfl ⟨g, rfl, ?_, ?_⟩
  · exact own_base (own_below (own_below ho _ _ _ (by simp)) _ _ _ (by simp)) (by simp; omega)
  · exact bset (bset (bs (ba (ba (ba (b0 _) _) _) _) hb) _ _ _ (by omega)) _ _ _ (by omega)

theorem markCard_any (A : Option Addr) (n c base : Nat) (ys : List Value) (k : Int) (w : World) (ho : w.ownsRow base 2 1 (.slice A n c) n ys) (hn : n ≤ 1048576) (h0 : 0 ≤ k) (h1 : k ≤ 1099511627776) :
    Calls Try.prog 71 #[.agg #[.slice A n c], .int .i64 k] w fun e w' => e = .returned (.int .i64 (k + n)) ∧
      w'.ownsRow base 2 1 (.slice A n c) n (ints (marks k n)) ∧ w.grownBy w' (Value.slice A n c).ownBlock := by
  go_enter Try.func71, Try.ntmps71
  go_wp2_with (go_at_call 74; refine (markInt64S_any _ _ _ _ _ _ _ (ho.alloc _) hn h0 h1).mono ?_; rintro e w' ⟨rfl, ho', hg⟩)
  go_ret
  exact ⟨rfl, ho', grown_trans (World.grownBy_alloc w _ _) hg⟩

end Go.Proofs.Ythbgdnjlmaadjaa
