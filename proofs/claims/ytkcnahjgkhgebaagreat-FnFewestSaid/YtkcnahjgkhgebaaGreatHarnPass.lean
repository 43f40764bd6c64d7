/- The harness over slices of Pass: copies, sizes, equal readings, marks. -/
import Derived.Test.YtkcnahjgkhgebaaGreatHarnInts
import Derived.Deep.RegionWith
namespace Go.Proofs.YtkcnahjgkhgebaaGreat
open Go.RowKit

theorem info_iPass : (Tryz.prog.info? 46).map (fun i => (i.zero, i.size, i.bytes)) = some (some (.agg #[.int .i64 0, .int .i64 0]), 2, 16) := by kernel_rfl

theorem eqPass_same (a b : Int) (w : World) :
    Calls Tryz.prog 35 #[.agg #[.int .i64 a, .int .i64 b], .agg #[.int .i64 a, .int .i64 b]] w fun e w' => e = .returned (.bool true) ∧ Below w.heap.size w w' := by
  go_enter Tryz.func35, Tryz.ntmps35
  go_wp2
  go_ret
  exact ⟨rfl, ba (ba (b0 _) _) _⟩

theorem eqPassS_same (A A' : Option Addr) (c c' : Nat) (ps : List (Int × Int)) (w : World) (ha : Rd w w.heap.size 2 A ps.length (prs ps)) (hb : Rd w w.heap.size 2 A' ps.length (prs ps)) (hl : ps.length ≤ 1048576) :
    Calls Tryz.prog 10 #[.slice A ps.length c, .slice A' ps.length c'] w fun e w' => e = .returned (.bool true) ∧ Below w.heap.size w w' := by
  go_enter Tryz.func10, Tryz.ntmps10
  go_wp2
  go_loopw [5] (fun i wr => ∃ k : Nat, k ≤ ps.length ∧ i = .int .i64 k ∧ Below w.heap.size w wr) (fun i _ => ps.length - (intOf i).toNat)
  case atStart => exact ⟨0, Nat.zero_le _, rfl, b0 _⟩
  case round =>
    obtain ⟨k, hk, rfl, hbw⟩ := hrel
    by_cases hlt : k < ps.length
    · obtain ⟨b, off, rfl, hbb, hc⟩ := ha.at_ hlt
      obtain ⟨b', off', rfl, hbb', hc'⟩ := hb.at_ hlt
      have h1 := (hbw.cell (p := ⟨b, off + k * 2, none⟩) hbb).trans (hc _ _ (prs_fst ps k hlt))
      have h2 := (hbw.cell (p := ⟨b, off + (k * 2 + 1), none⟩) hbb).trans (hc _ _ (prs_snd ps k hlt))
      have h3 := (hbw.cell (p := ⟨b', off' + k * 2, none⟩) hbb').trans (hc' _ _ (prs_fst ps k hlt))
      have h4 := (hbw.cell (p := ⟨b', off' + (k * 2 + 1), none⟩) hbb').trans (hc' _ _ (prs_snd ps k hlt))
      rw [← Nat.add_assoc] at h2 h4
      clear hc hc' ha hb
      go_wp2
      go_region_with (go_at_call 35; refine (eqPass_same _ _ _).mono ?_; rintro e w' ⟨rfl, hbe⟩)
      all_goals
        go_wp2
        go_roundw
        case rel => exact ⟨k + 1, by omega, by go_num, bs hbw.drew hbe⟩
        case measure => simp [intOf]; omega
    · go_wp2
      go_ret
      exact ⟨rfl, hbw⟩

set_option maxHeartbeats 400000 in
theorem markPassS_any (A : Option Addr) (n c base : Nat) (ys : List Value) (k : Int) (w : World) (ho : w.ownsRow base 46 2 (.slice A n c) n ys) (hn : n ≤ 1048576) (h0 : 0 ≤ k) (h1 : k ≤ 1099511627776) :
    Calls Tryz.prog 13 #[.slice A n c, .int .i64 k] w fun e w' => e = .returned (.int .i64 (k + 2 * n)) ∧
      w'.ownsRow base 46 2 (.slice A n c) n (prs (marks2 k n)) ∧ w.grownBy w' (Value.slice A n c).ownBlock := by
  go_enter Tryz.func13, Tryz.ntmps13
  go_wp2
  go_loopw [1, 5] (fun q i wr => ∃ (j : Nat) (zs : List Value), j ≤ n ∧ i = .int .i64 j ∧ q = .int .i64 (k + 2 * j) ∧ wr.ownsRow base 46 2 (.slice A n c) n zs ∧ zs.take (j * 2) = (prs (marks2 k n)).take (j * 2) ∧ w.grownBy wr (Value.slice A n c).ownBlock)
    (fun _ i _ => n - (intOf i).toNat)
  case atStart => exact ⟨0, ys, Nat.zero_le _, rfl, by go_num, ho, by simp, World.grownBy.refl w _⟩
  case round =>
    obtain ⟨j, zs, hj, rfl, rfl, hown, htk, hgr⟩ := hrel
    by_cases hlt : j < n
    · obtain ⟨g, rfl, hg, hglt⟩ := own_at hown hlt
      have hyl := hown.1
      have hcy := own_cell hown (j * 2) (by omega)
      have hcz := own_cell hown (j * 2 + 1) (by omega)
      have hfy := hown.frozenAt (j * 2)
      have hfz := hown.frozenAt (j * 2 + 1)
      have hs := hown.stored (j * 2) (.int .i64 (k + 2 * j))
      have hs2 := hs.1.stored (j * 2 + 1) (.int .i64 (k + 2 * j + 1))
      have hts := Lib.hid (take_step2 htk (by omega) (marks2_fst k n j hlt) (marks2_snd k n j hlt))
      have hgs := grown_trans (grown_trans hgr hs.2) hs2.2
      have hs1 := hs2.1
      clear htk ho hs hs2
      go_wp2
      go_roundw
      case rel => exact ⟨j + 1, _, by omega, by go_num, by go_num, hs1, hts.out, hgs⟩
      case measure => simp [intOf]; omega
    · have hke : j = n := by omega
      subst hke
      have he := take_done htk hown.1 (by rw [prs_length, marks2_length])
      subst he
      clear htk
      go_wp2
      go_ret
      exact ⟨rfl, hown, hgr⟩

set_option maxHeartbeats 400000 in
theorem heldPassS_any (A : Option Addr) (n c B : Nat) (k : Int) (w : World) (ha : Rd w B 2 A n (prs (marks2 k n))) (hn : n ≤ 1048576) (h0 : 0 ≤ k) (h1 : k ≤ 1099511627776) :
    Calls Tryz.prog 14 #[.slice A n c, .int .i64 k] w fun e w' => e = .returned (.int .i64 (k + 2 * n)) ∧ ∃ m, w' = w.drewN m := by
  go_enter Tryz.func14, Tryz.ntmps14
  go_wp2
  go_loopw [1, 5] (fun q i wr => ∃ j m : Nat, j ≤ n ∧ i = .int .i64 j ∧ q = .int .i64 (k + 2 * j) ∧ wr = w.drewN m) (fun _ i _ => n - (intOf i).toNat)
  case atStart => exact ⟨0, 0, Nat.zero_le _, rfl, by go_num, rfl⟩
  case round =>
    obtain ⟨j, m, hj, rfl, rfl, rfl⟩ := hrel
    by_cases hlt : j < n
    · obtain ⟨b, off, rfl, _, hc⟩ := ha.at_ hlt
      have h2 := hc _ _ (marks2_fst k n j hlt)
      have h3 := hc _ _ (marks2_snd k n j hlt)
      rw [← Nat.add_assoc] at h3
      clear hc ha
      go_wp2
      go_roundw
      case rel => exact ⟨j + 1, _, by omega, by go_num, by go_num, rfl⟩
      case measure => simp [intOf]; omega
    · have hke : j = n := by omega
      subst hke
      go_wp2
      go_ret
      exact ⟨rfl, _, rfl⟩

theorem heldPassS_L (A : Option Addr) (n c : Nat) (k : Int) (w : World) (ha : Rd w w.heap.size 2 A n (prs (marks2 k n))) (hn : n ≤ 1048576) (h0 : 0 ≤ k) (h1 : k ≤ 1099511627776) :
    Calls Tryz.prog 14 #[.slice A n c, .int .i64 k] w fun e w' => e = .returned (.int .i64 (k + 2 * n)) ∧ Below w.heap.size w w' :=
  (heldPassS_any A n c _ k w ha hn h0 h1).mono fun _ _ ⟨he, n, hw⟩ => ⟨he, hw ▸ below_drewN (b0 w) n⟩
end Go.Proofs.YtkcnahjgkhgebaaGreat
