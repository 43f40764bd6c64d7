/- Are copies plain, are they valid? In the program (isPlain, ValidCopies) and in the reference (l10Plain, l10Ok, ValidCopies). -/
import Derived.Test.YtoakjfoioijaaaaBasics
import Derived.Test.YtoakjfoioijaaaaFuncsCopy
namespace Go.Proofs.Ytoakjfoioijaaaa
open Go.RowKit

/-- A list of copies is plain at index i. -/
def plainAt (ps : List (Int × Int)) (i : Nat) : Bool := insideB (ps.getD i (0, 0)).1 0 19 && (insideB (ps.getD i (0, 0)).2 0 19 && (decide (i = 0) || decide ((ps.getD (i - 1) (0, 0)).2 < (ps.getD i (0, 0)).2)))
def plainB (ps : List (Int × Int)) : Bool := (List.range ps.length).all (plainAt ps)
theorem plainB_step {ps : List (Int × Int)} {k : Nat} (h : (List.range k).all (plainAt ps) = true) (hk : plainAt ps k = true) : (List.range (k + 1)).all (plainAt ps) = true := by
  rw [List.range_succ, List.all_append, h]
  simp [hk]
theorem plainB_fail {ps : List (Int × Int)} {k : Nat} (hk : k < ps.length) (h : plainAt ps k = false) : plainB ps = false :=
  List.all_eq_false.2 ⟨k, List.mem_range.2 hk, by simp [h]⟩
theorem plainAt_a {ps : List (Int × Int)} {k : Nat} (hk : k < ps.length) (h : insideB ps[k].1 0 19 = false) : plainAt ps k = false := by
  simp [plainAt, List.getD, hk, h]
theorem plainAt_b {ps : List (Int × Int)} {k : Nat} (hk : k < ps.length) (h : insideB ps[k].2 0 19 = false) : plainAt ps k = false := by
  simp [plainAt, List.getD, hk, h]
theorem plainAt_c {ps : List (Int × Int)} {k : Nat} (hk : k + 1 < ps.length) (h : ps[k + 1].2 ≤ ps[k].2) : plainAt ps (k + 1) = false := by
  have h' : ¬ ps[k].2 < ps[k + 1].2 := by omega
  simp [plainAt, List.getD, hk, h', show k < ps.length by omega]
theorem plainAt_z {ps : List (Int × Int)} (hk : 0 < ps.length) (h0 : insideB ps[0].1 0 19 = true) (h1 : insideB ps[0].2 0 19 = true) : plainAt ps 0 = true := by
  simp [plainAt, List.getD, hk, h0, h1]
theorem plainAt_s {ps : List (Int × Int)} {k : Nat} (hk : k + 1 < ps.length) (h0 : insideB ps[k + 1].1 0 19 = true) (h1 : insideB ps[k + 1].2 0 19 = true) (h : ¬ ps[k + 1].2 ≤ ps[k].2) : plainAt ps (k + 1) = true := by
  have h' : ps[k].2 < ps[k + 1].2 := by omega
  simp [plainAt, List.getD, hk, h', show k < ps.length by omega, h0, h1]

theorem l00In_q (n lo hi : Int) (w : World) (m : Nat) :
    Calls Try.prog 111 #[.int .i64 n, .int .i64 lo, .int .i64 hi] (w.drewN m) fun e w' => e = .returned (.bool (insideB n lo hi)) ∧ ∃ m', w' = w.drewN m' :=
  Calls.quiet_of_same ((l00In_any n lo hi _).mono fun _ _ ⟨a, b⟩ => ⟨a, b.symm⟩)
theorem inside_q (n lo hi : Int) (w : World) (m : Nat) :
    Calls Try.prog 113 #[.int .i64 n, .int .i64 lo, .int .i64 hi] (w.drewN m) fun e w' => e = .returned (.bool (insideB n lo hi)) ∧ ∃ m', w' = w.drewN m' :=
  Calls.quiet_of_same ((inside_any n lo hi _).mono fun _ _ ⟨a, b⟩ => ⟨a, b.symm⟩)

set_option maxHeartbeats 1000000 in
theorem l10Plain_any (A : Option Addr) (c : Nat) (ps : List (Int × Int)) (w : World) (ha : Rd w w.heap.size 2 A ps.length (prs ps)) (hl : ps.length ≤ 1048576) :
    Calls Try.prog 144 #[.slice A ps.length c] w fun e w' => e = .returned (.bool (plainB ps)) ∧ Below w.heap.size w w' := by
  go_enter Try.func144, Try.ntmps144
  go_wp2
  go_loopw [3] (fun i wr => ∃ k : Nat, k ≤ ps.length ∧ i = .int .i64 k ∧ (List.range k).all (plainAt ps) = true ∧ Below w.heap.size w wr) (fun i _ => ps.length - (intOf i).toNat)
  case atStart => exact ⟨0, Nat.zero_le _, rfl, rfl, b0 _⟩
  case round =>
    obtain ⟨k, hk, rfl, hno, hbw⟩ := hrel
    have HNO := Lib.hid hno
    clear hno
    by_cases hlt : k < ps.length
    · obtain ⟨b, off, rfl, hbb, hc⟩ := ha.at_ hlt
      have h1 := (hbw.cell (p := ⟨b, off + k * 2, none⟩) hbb).trans (hc _ _ (prs_fst ps k hlt))
      have h2 := (hbw.cell (p := ⟨b, off + (k * 2 + 1), none⟩) hbb).trans (hc _ _ (prs_snd ps k hlt))
      rw [← Nat.add_assoc] at h2
      rcases Bool.eq_false_or_eq_true (insideB ps[k].1 0 19) with hi | hi
      · rcases Bool.eq_false_or_eq_true (insideB ps[k].2 0 19) with hj | hj
        · cases k with
          | zero =>
            have HP := Lib.hid (plainB_step HNO.out (plainAt_z hlt hi hj))
            clear hc ha
            simp only [Nat.zero_mul, Nat.add_zero] at h1 h2
            go_wp2
            go_quiet ((go_at_call 111; exact l00In_q _ _ _ _ _))
            go_wp2
            go_roundw
            case rel => exact ⟨1, by omega, by go_num, HP.out, below_drewN hbw _⟩
            case measure => simp [intOf]; omega
          | succ k =>
            have hlt' : k < ps.length := by omega
            have h3 := (hbw.cell (p := ⟨b, off + (k * 2 + 1), none⟩) hbb).trans (hc _ _ (prs_snd ps k hlt'))
            rw [← Nat.add_assoc] at h3
            clear hc ha
            by_cases hord : ps[k + 1].2 ≤ ps[k].2
            · have HP := Lib.hid (plainB_fail hlt (plainAt_c hlt hord))
              go_wp2
              go_quiet ((go_at_call 111; exact l00In_q _ _ _ _ _))
              go_wp2
              go_ret
              exact ⟨ret_bool HP.out.symm, below_drewN hbw _⟩
            · have HP := Lib.hid (plainB_step HNO.out (plainAt_s hlt hi hj hord))
              go_wp2
              go_quiet ((go_at_call 111; exact l00In_q _ _ _ _ _))
              go_wp2
              go_roundw
              case rel => exact ⟨k + 2, by omega, by go_num, HP.out, below_drewN hbw _⟩
              case measure => simp [intOf]; omega
        · have HP := Lib.hid (plainB_fail hlt (plainAt_b hlt hj))
          clear hc ha
          go_wp2
          go_quiet ((go_at_call 111; exact l00In_q _ _ _ _ _))
          go_wp2
          go_ret
          exact ⟨ret_bool HP.out.symm, below_drewN hbw _⟩
      · have HP := Lib.hid (plainB_fail hlt (plainAt_a hlt hi))
        clear hc ha
        go_wp2
        go_quiet ((go_at_call 111; exact l00In_q _ _ _ _ _))
        go_wp2
        go_ret
        exact ⟨ret_bool HP.out.symm, below_drewN hbw _⟩
    · obtain rfl : k = ps.length := by omega
      have HP := Lib.hid (show plainB ps = true from HNO.out)
      go_wp2
      go_ret
      exact ⟨ret_bool HP.out.symm, hbw⟩

set_option maxHeartbeats 1000000 in
theorem isPlain_any (A : Option Addr) (c : Nat) (ps : List (Int × Int)) (w : World) (ha : Rd w w.heap.size 2 A ps.length (prs ps)) (hl : ps.length ≤ 1048576) :
    Calls Try.prog 116 #[.slice A ps.length c] w fun e w' => e = .returned (.bool (plainB ps)) ∧ Below w.heap.size w w' := by
  go_enter Try.func116, Try.ntmps116
  go_wp2
  go_loopw [7] (fun i wr => ∃ k : Nat, k ≤ ps.length ∧ i = .int .i64 k ∧ (List.range k).all (plainAt ps) = true ∧ Below w.heap.size w wr) (fun i _ => ps.length - (intOf i).toNat)
  case atStart => exact ⟨0, Nat.zero_le _, rfl, rfl, b0 _⟩
  case round =>
    obtain ⟨k, hk, rfl, hno, hbw⟩ := hrel
    have HNO := Lib.hid hno
    clear hno
    by_cases hlt : k < ps.length
    · obtain ⟨b, off, rfl, hbb, hc⟩ := ha.at_ hlt
      have h1 := (hbw.cell (p := ⟨b, off + k * 2, none⟩) hbb).trans (hc _ _ (prs_fst ps k hlt))
      have h2 := (hbw.cell (p := ⟨b, off + (k * 2 + 1), none⟩) hbb).trans (hc _ _ (prs_snd ps k hlt))
      rw [← Nat.add_assoc] at h2
      rcases Bool.eq_false_or_eq_true (insideB ps[k].1 0 19) with hi | hi
      · rcases Bool.eq_false_or_eq_true (insideB ps[k].2 0 19) with hj | hj
        · cases k with
          | zero =>
            have HP := Lib.hid (plainB_step HNO.out (plainAt_z hlt hi hj))
            clear hc ha
            simp only [Nat.zero_mul, Nat.add_zero] at h1 h2
            go_wp2
            go_quiet ((go_at_call 113; exact inside_q _ _ _ _ _))
            go_wp2
            go_roundw
            case rel => exact ⟨1, by omega, by go_num, HP.out, below_drewN (ba hbw _) _⟩
            case measure => simp [intOf]; omega
          | succ k =>
            have hlt' : k < ps.length := by omega
            have h3 := (hbw.cell (p := ⟨b, off + (k * 2 + 1), none⟩) hbb).trans (hc _ _ (prs_snd ps k hlt'))
            rw [← Nat.add_assoc] at h3
            have hblt : b < wr.heap.size := by have := hbw.size; omega
            have h3a : (wr.alloc (.cells #[.int .i64 ps[k + 1].1, .int .i64 ps[k + 1].2] 92)).cell? ⟨b, off + k * 2 + 1, none⟩ = some (.int .i64 ps[k].2) := by rw [World.cell?_alloc_lt _ _ _ (by exact hblt), h3]
            clear hc ha
            by_cases hord : ps[k + 1].2 ≤ ps[k].2
            · have HP := Lib.hid (plainB_fail hlt (plainAt_c hlt hord))
              go_wp2
              go_quiet ((go_at_call 113; exact inside_q _ _ _ _ _))
              go_wp2
              go_ret
              exact ⟨ret_bool HP.out.symm, below_drewN (ba hbw _) _⟩
            · have HP := Lib.hid (plainB_step HNO.out (plainAt_s hlt hi hj hord))
              go_wp2
              go_quiet ((go_at_call 113; exact inside_q _ _ _ _ _))
              go_wp2
              go_roundw
              case rel => exact ⟨k + 2, by omega, by go_num, HP.out, below_drewN (ba hbw _) _⟩
              case measure => simp [intOf]; omega
        · have HP := Lib.hid (plainB_fail hlt (plainAt_b hlt hj))
          clear hc ha
          go_wp2
          go_quiet ((go_at_call 113; exact inside_q _ _ _ _ _))
          go_wp2
          go_ret
          exact ⟨ret_bool HP.out.symm, below_drewN (ba hbw _) _⟩
      · have HP := Lib.hid (plainB_fail hlt (plainAt_a hlt hi))
        clear hc ha
        go_wp2
        go_quiet ((go_at_call 113; exact inside_q _ _ _ _ _))
        go_wp2
        go_ret
        exact ⟨ret_bool HP.out.symm, below_drewN (ba hbw _) _⟩
    · obtain rfl : k = ps.length := by omega
      have HP := Lib.hid (show plainB ps = true from HNO.out)
      go_wp2
      go_ret
      exact ⟨ret_bool HP.out.symm, hbw⟩
end Go.Proofs.Ytoakjfoioijaaaa
