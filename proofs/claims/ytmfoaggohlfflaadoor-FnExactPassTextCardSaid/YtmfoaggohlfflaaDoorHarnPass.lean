/- The harness over slices of Pass: copies, sizes, equal readings, marks. -/
import Derived.Test.YtmfoaggohlfflaaDoorHarnInts
import Derived.Deep.RegionWith
namespace Go.Proofs.YtmfoaggohlfflaaDoor
open Go.RowKit

theorem info_iPass : (Tryd.prog.info? 34).map (fun i => (i.zero, i.size, i.bytes)) = some (some (.agg #[.int .i64 0, .int .i64 0]), 2, 16) := by kernel_rfl

theorem eqPass_same (a b : Int) (w : World) :
    Calls Tryd.prog 18 #[.agg #[.int .i64 a, .int .i64 b], .agg #[.int .i64 a, .int .i64 b]] w fun e w' => e = .returned (.bool true) ∧ Below w.heap.size w w' := by
  go_enter Tryd.func18, Tryd.ntmps18
  go_wp2
  go_ret
  exact ⟨rfl, ba (ba (b0 _) _) _⟩

theorem szPassS_yes (A : Option Addr) (n c : Nat) (l : Int) (w : World) (h0 : (n : Int) ≤ l) (h1 : l ≤ 1048576) :
    Calls Tryd.prog 5 #[.slice A n c, .int .i64 l] w fun e w' => e = .returned (.int .i64 (l - n)) ∧ w = w' := by
  go_enter Tryd.func5, Tryd.ntmps5
  go_wp2
  go_ret
  exact ⟨rfl, rfl⟩
set_option maxRecDepth 100000 in
theorem szPassS_no (A : Option Addr) (n c : Nat) (l : Int) (w : World) (h0 : l < (n : Int)) (h1 : 0 ≤ l) (h2 : n ≤ maxLen) (h3 : l ≤ 1048576) :
    Calls Tryd.prog 5 #[.slice A n c, .int .i64 l] w fun e w' => e = .returned (.int .i64 (-1)) ∧ w = w' := by
  unfold maxLen at h2
  go_enter Tryd.func5, Tryd.ntmps5
  go_wp2
  go_ret
  exact ⟨rfl, rfl⟩

theorem toPass_any (a b : Int) (w : World) :
    Calls Tryd.prog 14 #[.agg #[.int .i64 a, .int .i64 b]] w fun e w' => e = .returned (.agg #[.int .i64 a, .int .i64 b]) ∧ Below w.heap.size w w' := by
  go_enter Tryd.func14, Tryd.ntmps14
  go_wp2
  refine bodyPost_ret (v := .agg #[.int .i64 a, .int .i64 b]) (by simp [results, Tryd.results14, go_sem]) rfl ⟨rfl, ?_⟩
  exact ba (ba (ba (b0 _) _) _) _

theorem eqPassS_same (A A' : Option Addr) (c c' : Nat) (ps : List (Int × Int)) (w : World) (ha : Rd w w.heap.size 2 A ps.length (prs ps)) (hb : Rd w w.heap.size 2 A' ps.length (prs ps)) (hl : ps.length ≤ 1048576) :
    Calls Tryd.prog 9 #[.slice A ps.length c, .slice A' ps.length c'] w fun e w' => e = .returned (.bool true) ∧ Below w.heap.size w w' := by
  go_enter Tryd.func9, Tryd.ntmps9
  go_wp2
  go_loopw [5] (fun i wr => ∃ k : Nat, k ≤ ps.length ∧ i = .int .i64 k ∧ Below w.heap.size w wr) (fun i _ => ps.length - (intOf i).toNat)
  case atStart => exact ⟨0, Nat.zero_le _, rfl, b0 _⟩
  case round =>
    obtain ⟨k, hk, rfl, hbw⟩ := hrel
    by_cases hlt : k < ps.length
    · obtain ⟨b, off, rfl, hbb, hc⟩ := ha.at_ hlt
      obtain ⟨b', off', rfl, hbb', hc'⟩ := hb.at_ hlt
      have h1 := (hbw.cell (p := ⟨b, off + k * 2, none⟩) hbb).trans (hc _ _ (prs_fst ps k hlt))
      have h2 := (hbw.cell (p := ⟨b, off + (k * 2 + 1), none⟩) hbb).trans (hc _ _ (prs_snd ps k hlt))
      have h3 := (hbw.cell (p := ⟨b', off' + k * 2, none⟩) hbb').trans (hc' _ _ (prs_fst ps k hlt))
      have h4 := (hbw.cell (p := ⟨b', off' + (k * 2 + 1), none⟩) hbb').trans (hc' _ _ (prs_snd ps k hlt))
      rw [← Nat.add_assoc] at h2 h4
      clear hc hc' ha hb
      go_wp2
      go_region_with (go_at_call 18; refine (eqPass_same _ _ _).mono ?_; rintro e w' ⟨rfl, hbe⟩)
      all_goals
        go_wp2
        go_roundw
        case rel => exact ⟨k + 1, by omega, by go_num, bs hbw.drew hbe⟩
        case measure => simp [intOf]; omega
    · go_wp2
      go_ret
      exact ⟨rfl, hbw⟩

theorem toPassS_any (A : Option Addr) (c : Nat) (ps : List (Int × Int)) (w : World) (ha : Rd w w.heap.size 2 A ps.length (prs ps)) (hl : ps.length ≤ 1048576) :
    Calls Tryd.prog 7 #[.slice A ps.length c] w fun e w' => ∃ g, e = .returned (.slice (some ⟨g, 0, none⟩) ps.length ps.length) ∧
      w'.ownsRow w.heap.size 34 2 (.slice (some ⟨g, 0, none⟩) ps.length ps.length) ps.length (prs ps) ∧ Below w.heap.size w w' := by
  obtain ⟨i0, hi, hz0, hz1, hz2⟩ := info_parts info_iPass
  go_enter Tryd.func7, Tryd.ntmps7
  go_wp2_with (at_make; refine wpList_make_full _ rfl _ _ 25 rfl w.heap.size 34 i0 (.agg #[.int .i64 0, .int .i64 0]) 2 Tryd.underlying25 hi hz0 hz1 _ _ _ _ ps.length rfl rfl rfl rfl (by rw [hz2]; omega) (by unfold maxLen; omega) (Nat.le_refl _) ?_; intro w1 hown1 hgrow1)
  go_loopw [4] (fun i wr => ∃ (k : Nat) (ys : List Value), k ≤ ps.length ∧ i = .int .i64 k ∧ wr.ownsRow w.heap.size 34 2 (.slice (some ⟨w.heap.size, 0, none⟩) ps.length ps.length) ps.length ys ∧ ys.take (k * 2) = (prs ps).take (k * 2) ∧ Below w.heap.size w wr ∧ w.heap.size < wr.heap.size)
    (fun i _ => ps.length - (intOf i).toNat)
  case atStart => exact ⟨0, _, Nat.zero_le _, rfl, hown1, by simp, (b0 _).grown hgrow1 (Nat.le_refl _) (by simp), (own_heap hown1)⟩
  case round =>
    obtain ⟨k, ys, hk, rfl, hown, htk, hbw, hsz⟩ := hrel
    by_cases hlt : k < ps.length
    · obtain ⟨b, off, rfl, hb, hc⟩ := ha.at_ hlt
      have h1 := (hbw.cell (p := ⟨b, off + k * 2, none⟩) hb).trans (hc _ _ (prs_fst ps k hlt))
      have h2 := (hbw.cell (p := ⟨b, off + (k * 2 + 1), none⟩) hb).trans (hc _ _ (prs_snd ps k hlt))
      rw [← Nat.add_assoc] at h2
      have hyl := hown.1
      have hts := Lib.hid (take_step2 htk (by omega) (prs_fst ps k hlt) (prs_snd ps k hlt))
      clear hc ha htk hown1 hgrow1
      go_wp2_with (go_at_call 14; refine (toPass_any _ _ _).mono ?_; rintro e w2 ⟨rfl, hb2⟩; have hown2 := own_upg hown hb2 hsz; have hsz2 := hb2.size; have hcy := own_cell hown2 (k * 2) (by omega); have hcz := own_cell hown2 (k * 2 + 1) (by omega); have hfy := hown2.frozenAt (k * 2); have hfz := hown2.frozenAt (k * 2 + 1))
      go_roundw
      case rel => exact ⟨k + 1, _, by omega, by go_num, ownsRow_set (ownsRow_set hown2 _ _) _ _, hts.out, bset (bset (bs hbw hb2) _ _ _ (Nat.le_refl _)) _ _ _ (Nat.le_refl _), by simp; omega⟩
      case measure => simp [intOf]; omega
    · have hke : k = ps.length := by omega
      subst hke
      have he := take_done htk hown.1 (prs_length ps)
      subst he
      clear htk
      go_wp2
      go_ret
      exact ⟨_, rfl, hown, hbw⟩


theorem szPassS_yes_L (A : Option Addr) (n c : Nat) (l : Int) (w : World) (h0 : (n : Int) ≤ l) (h1 : l ≤ 1048576) :
    Calls Tryd.prog 5 #[.slice A n c, .int .i64 l] w fun e w' => e = .returned (.int .i64 (l - n)) ∧ Below w.heap.size w w' :=
  (szPassS_yes A n c l w h0 h1).mono fun _ _ ⟨he, hw⟩ => ⟨he, hw ▸ b0 w⟩
theorem szPassS_no_L (A : Option Addr) (n c : Nat) (l : Int) (w : World) (h0 : l < (n : Int)) (h1 : 0 ≤ l) (h2 : n ≤ maxLen) (h3 : l ≤ 1048576) :
    Calls Tryd.prog 5 #[.slice A n c, .int .i64 l] w fun e w' => e = .returned (.int .i64 (-1)) ∧ Below w.heap.size w w' :=
  (szPassS_no A n c l w h0 h1 h2 h3).mono fun _ _ ⟨he, hw⟩ => ⟨he, hw ▸ b0 w⟩
end Go.Proofs.YtmfoaggohlfflaaDoor
