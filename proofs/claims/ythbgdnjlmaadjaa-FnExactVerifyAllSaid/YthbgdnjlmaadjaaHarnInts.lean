/- The harness over slices of int64 and over cards: copies, sizes, equal readings, marks. -/
import Derived.Test.YthbgdnjlmaadjaaChecked
import Derived.Test.YthbgdnjlmaadjaaWords
import Derived.Deep.QuietTactic
import Derived.BigQuiet
namespace Go.Proofs.Ythbgdnjlmaadjaa
open Go.RowKit

theorem info_i64 : (Try.prog.info? 2).map (fun i => (i.zero, i.size, i.bytes)) = some (some (.int .i64 0), 1, 8) := by kernel_rfl

set_option maxHeartbeats 400000 in
theorem eqInt64S_same (A A' : Option Addr) (c c' B : Nat) (xs : List Int) (w : World) (ha : Rd w B 1 A xs.length (ints xs)) (hb : Rd w B 1 A' xs.length (ints xs)) (hl : xs.length ≤ 1048576) :
    Calls Try.prog 67 #[.slice A xs.length c, .slice A' xs.length c'] w fun e w' => e = .returned (.bool true) ∧ ∃ n, w' = w.drewN n := by
  go_enter Try.func67, Try.ntmps67
  go_wp2
  go_loopw [5] (fun i wr => ∃ k n : Nat, k ≤ xs.length ∧ i = .int .i64 k ∧ wr = w.drewN n) (fun i _ => xs.length - (intOf i).toNat)
  case atStart => exact ⟨0, 0, Nat.zero_le _, rfl, rfl⟩
  case round =>
    obtain ⟨k, n, hk, rfl, rfl⟩ := hrel
    by_cases hlt : k < xs.length
    · obtain ⟨b, off, rfl, _, hc⟩ := ha.at_ hlt
      obtain ⟨b', off', rfl, _, hc'⟩ := hb.at_ hlt
      have h1 := hc k _ (ints_get xs k hlt)
      have h2 := hc' k _ (ints_get xs k hlt)
      clear hc hc' ha hb
      go_wp2
      go_quiet (fail)
      go_wp2
      go_roundw
      case rel => exact ⟨k + 1, _, by omega, by go_num, rfl⟩
      case measure => simp [intOf]; omega
    · go_wp2
      go_ret
      exact ⟨rfl, _, rfl⟩

/-- szInt64S: the room that is left, or -1. -/
theorem szInt64S_yes (A : Option Addr) (n c : Nat) (l : Int) (w : World) (h0 : (n : Int) ≤ l) (h1 : l ≤ 1048576) :
    Calls Try.prog 139 #[.slice A n c, .int .i64 l] w fun e w' => e = .returned (.int .i64 (l - n)) ∧ w = w' := by
  go_enter Try.func139, Try.ntmps139
  go_wp2
  go_ret
  exact ⟨rfl, rfl⟩
set_option maxRecDepth 100000 in
theorem szInt64S_no (A : Option Addr) (n c : Nat) (l : Int) (w : World) (h0 : l < (n : Int)) (h1 : 0 ≤ l) (h2 : n ≤ maxLen) (h3 : l ≤ 1048576) :
    Calls Try.prog 139 #[.slice A n c, .int .i64 l] w fun e w' => e = .returned (.int .i64 (-1)) ∧ w = w' := by
  unfold maxLen at h2
  go_enter Try.func139, Try.ntmps139
  go_wp2
  go_ret
  exact ⟨rfl, rfl⟩

/-- A copy in new memory. -/
theorem toInt64S_any (A : Option Addr) (c : Nat) (xs : List Int) (w : World) (ha : Rd w w.heap.size 1 A xs.length (ints xs)) (hl : xs.length ≤ 1048576) :
    Calls Try.prog 140 #[.slice A xs.length c] w fun e w' => ∃ g, e = .returned (.slice (some ⟨g, 0, none⟩) xs.length xs.length) ∧
      w'.ownsRow w.heap.size 2 1 (.slice (some ⟨g, 0, none⟩) xs.length xs.length) xs.length (ints xs) ∧ Below w.heap.size w w' := by
  obtain ⟨i0, hi, hz0, hz1, hz2⟩ := info_parts info_i64
  go_enter Try.func140, Try.ntmps140
  go_wp2_with (at_make; refine wpList_make_full _ rfl _ _ 24 rfl w.heap.size 2 i0 (.int .i64 0) 1 Try.underlying24 hi hz0 hz1 _ _ _ _ xs.length rfl rfl rfl rfl (by rw [hz2]; omega) (by unfold maxLen; omega) (Nat.le_refl _) ?_; intro w1 hown1 hgrow1)
  go_loopw [4] (fun i wr => ∃ (k : Nat) (ys : List Value), k ≤ xs.length ∧ i = .int .i64 k ∧ wr.ownsRow w.heap.size 2 1 (.slice (some ⟨w.heap.size, 0, none⟩) xs.length xs.length) xs.length ys ∧ ys.take k = (ints xs).take k ∧ Below w.heap.size w wr)
    (fun i _ => xs.length - (intOf i).toNat)
  case atStart => exact ⟨0, _, Nat.zero_le _, rfl, hown1, by simp, (Below.refl _ _).grown hgrow1 (Nat.le_refl _) (by simp)⟩
  case round =>
    obtain ⟨k, ys, hk, rfl, hown, htk, hbw⟩ := hrel
    by_cases hlt : k < xs.length
    · obtain ⟨b, off, rfl, hb, hc⟩ := ha.at_ hlt
      have h1 := (hbw.cell (p := ⟨b, off + k, none⟩) hb).trans (hc k _ (ints_get xs k hlt))
      have hyl := hown.1
      have hcy : wr.cell? ⟨w.heap.size, k, none⟩ = some ys[k] := by rw [hown.cellAt k (by omega)]; exact List.getElem?_eq_getElem (by omega)
      have hfy := hown.frozenAt k
      have hs := ownsRow_set hown k (.int .i64 xs[k])
      have hbs := hbw.setCell (p := ⟨w.heap.size, k, none⟩) (Nat.le_refl _) (.int .i64 xs[k])
      have hts := Lib.hid (take_step htk (by omega) (ints_get xs k hlt))
      clear hc ha htk hown1 hgrow1
      go_wp2
      go_roundw
      case rel => exact ⟨k + 1, _, by omega, by go_num, hs, hts.out, hbs⟩
      case measure => simp [intOf]; omega
    · have hke : k = xs.length := by omega
      subst hke
      have he := take_done htk (by rw [hown.1]; omega) (ints_length xs)
      subst he
      clear htk
      go_wp2
      go_ret
      exact ⟨_, rfl, hown, hbw⟩
/-- markInt64S writes k, k+1, .. into a row of the call's own; nothing else turns. -/
theorem markInt64S_any (A : Option Addr) (n c base : Nat) (ys : List Value) (k : Int) (w : World) (ho : w.ownsRow base 2 1 (.slice A n c) n ys) (hn : n ≤ 1048576) (h0 : 0 ≤ k) (h1 : k ≤ 1099511627776) :
    Calls Try.prog 74 #[.slice A n c, .int .i64 k] w fun e w' => e = .returned (.int .i64 (k + n)) ∧
      w'.ownsRow base 2 1 (.slice A n c) n (ints (marks k n)) ∧ w.grownBy w' (Value.slice A n c).ownBlock := by
  go_enter Try.func74, Try.ntmps74
  go_wp2
  go_loopw [1, 5] (fun q i wr => ∃ (j : Nat) (zs : List Value), j ≤ n ∧ i = .int .i64 j ∧ q = .int .i64 (k + j) ∧ wr.ownsRow base 2 1 (.slice A n c) n zs ∧ zs.take j = (ints (marks k n)).take j ∧ w.grownBy wr (Value.slice A n c).ownBlock)
    (fun _ i _ => n - (intOf i).toNat)
  case atStart => exact ⟨0, ys, Nat.zero_le _, rfl, by go_num, ho, by simp, World.grownBy.refl w _⟩
  case round =>
    obtain ⟨j, zs, hj, rfl, rfl, hown, htk, hgr⟩ := hrel
    by_cases hlt : j < n
    · obtain ⟨g, rfl, hg, hglt⟩ := own_at hown hlt
      have hyl := hown.1
      have hcy : wr.cell? ⟨g, j, none⟩ = some zs[j] := by rw [hown.cellAt j (by omega)]; exact List.getElem?_eq_getElem (by omega)
      have hfy := hown.frozenAt j
      have hs := hown.stored j (.int .i64 (k + j))
      have hts := Lib.hid (take_step htk (by omega) (marks_get k n j hlt))
      have hgs := grown_trans hgr hs.2
      have hs1 := hs.1
      clear htk ho hs
      go_wp2
      go_roundw
      case rel => exact ⟨j + 1, _, by omega, by go_num, by go_num, hs1, hts.out, hgs⟩
      case measure => simp [intOf]; omega
    · have hke : j = n := by omega
      subst hke
      have he := take_done htk (by rw [hown.1]; omega) (by rw [ints_length, marks_length])
      subst he
      clear htk
      go_wp2
      go_ret
      exact ⟨rfl, hown, hgr⟩

/-- heldInt64S finds them. -/
theorem heldInt64S_any (A : Option Addr) (n c B : Nat) (k : Int) (w : World) (ha : Rd w B 1 A n (ints (marks k n))) (hn : n ≤ 1048576) (h0 : 0 ≤ k) (h1 : k ≤ 1099511627776) :
    Calls Try.prog 75 #[.slice A n c, .int .i64 k] w fun e w' => e = .returned (.int .i64 (k + n)) ∧ ∃ m, w' = w.drewN m := by
  go_enter Try.func75, Try.ntmps75
  go_wp2
  go_loopw [1, 5] (fun q i wr => ∃ j m : Nat, j ≤ n ∧ i = .int .i64 j ∧ q = .int .i64 (k + j) ∧ wr = w.drewN m) (fun _ i _ => n - (intOf i).toNat)
  case atStart => exact ⟨0, 0, Nat.zero_le _, rfl, by go_num, rfl⟩
  case round =>
    obtain ⟨j, m, hj, rfl, rfl, rfl⟩ := hrel
    by_cases hlt : j < n
    · obtain ⟨b, off, rfl, _, hc⟩ := ha.at_ hlt
      have h1 := hc j _ (marks_get k n j hlt)
      clear hc ha
      go_wp2
      go_roundw
      case rel => exact ⟨j + 1, _, by omega, by go_num, by go_num, rfl⟩
      case measure => simp [intOf]; omega
    · have hke : j = n := by omega
      subst hke
      go_wp2
      go_ret
      exact ⟨rfl, _, rfl⟩

/-! ### The same for a law's walk: of memory it is said only that what was there stays. -/
theorem eqInt64S_L (A A' : Option Addr) (c c' : Nat) (xs : List Int) (w : World) (ha : Rd w w.heap.size 1 A xs.length (ints xs)) (hb : Rd w w.heap.size 1 A' xs.length (ints xs)) (hl : xs.length ≤ 1048576) :
    Calls Try.prog 67 #[.slice A xs.length c, .slice A' xs.length c'] w fun e w' => e = .returned (.bool true) ∧ Below w.heap.size w w' :=
  (eqInt64S_same A A' c c' _ xs w ha hb hl).mono fun _ _ ⟨he, n, hw⟩ => ⟨he, hw ▸ below_drewN (b0 w) n⟩
theorem heldInt64S_L (A : Option Addr) (n c : Nat) (k : Int) (w : World) (ha : Rd w w.heap.size 1 A n (ints (marks k n))) (hn : n ≤ 1048576) (h0 : 0 ≤ k) (h1 : k ≤ 1099511627776) :
    Calls Try.prog 75 #[.slice A n c, .int .i64 k] w fun e w' => e = .returned (.int .i64 (k + n)) ∧ Below w.heap.size w w' :=
  (heldInt64S_any A n c _ k w ha hn h0 h1).mono fun _ _ ⟨he, n, hw⟩ => ⟨he, hw ▸ below_drewN (b0 w) n⟩
end Go.Proofs.Ythbgdnjlmaadjaa
