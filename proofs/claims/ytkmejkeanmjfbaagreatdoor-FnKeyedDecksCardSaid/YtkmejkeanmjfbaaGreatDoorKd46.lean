/- Plain laws of FnKeyedDecks: texts of program cards read back; decks that are punched. -/
import Derived.Test.YtkmejkeanmjfbaaGreatDoorKd42
import Derived.Test.YtkmejkeanmjfbaaGreatDoorKd39
import Derived.Test.YtkmejkeanmjfbaaGreatDoorKd45
/-! ### KdLaw -/
namespace Go.Proofs.YtkmejkeanmjfbaaGreatDoor
open Go.RowKit

theorem run_small {p : ByteArray} (hp : progB p = true) : ∀ r ∈ runsL (byt p), 1 ≤ r.2 ∧ r.2 ≤ 20 := by
  obtain ⟨e1, e2, e3⟩ := runsL_back (byt p)
  intro r hr
  refine ⟨e3 r hr, ?_⟩
  have h1 := expand_len hr
  rw [e1, byt_size] at h1
  have := (progB_len hp).2
  omega
/-- A program card's text is read back. -/
theorem runs_again {p : ByteArray} (hp : progB p = true) : rrO (runsO p) = some (byt p) ∧ 0 < (runsO p).length := by
  obtain ⟨e1, e2, e3⟩ := runsL_back (byt p)
  have hlt := progB_len hp
  have hne : runsL (byt p) ≠ [] := fun e => by
    rw [e] at e1
    have := congrArg List.length e1
    rw [byt_size] at this
    simp [expand] at this
    omega
  have hO : runsO p = Lib.join ((runsL (byt p)).map wordOf) [32] := by unfold runsO runsT; rw [if_pos hp]
  have hfree : ∀ w ∈ (runsL (byt p)).map wordOf, (32 : UInt8) ∉ w := by
    intro w hw
    obtain ⟨r, hr, rfl⟩ := List.mem_map.1 hw
    refine free_word (progB_letters (p := byt p) (by rw [bs_byt]; exact hp) _ ?_) (run_small hp r hr).2
    rw [← e1]
    exact mem_expand hr (e3 r hr)
  have hs : readW (splitW 32 (runsO p)) = some (runsL (byt p)) := by
    rw [hO, splitW_join (by simpa using hne) hfree]
    exact readW_of (run_small hp)
  refine ⟨?_, by rw [hO]; exact join_some hne⟩
  have := (rr_back hs).1 (by rw [e1, bs_byt])
  rw [this, e1]
theorem runs_not {p : ByteArray} (hp : progB p = false) : runsO p = [] ∧ rrO (runsO p) = none := by
  have h1 : runsO p = [] := by unfold runsO; rw [if_neg (by simp [hp])]
  refine ⟨h1, ?_⟩
  rw [h1]
  exact rr_none rfl
/-- What a reading of a program card's text gives. -/
theorem kd_yes {p : ByteArray} (hp : progB p = true) : rrB (byt (bs_ (runsO p))) = true ∧ rrS (byt (bs_ (runsO p))) = p ∧ ¬ (bs_ (runsO p)).size = 0 := by
  obtain ⟨h1, h2⟩ := runs_again hp
  rw [byt_bs]
  unfold rrB rrS
  rw [h1]
  exact ⟨rfl, bs_byt p, by rw [bs_size]; omega⟩
theorem kd_no {p : ByteArray} (hp : progB p = false) : rrB (byt (bs_ (runsO p))) = false ∧ (bs_ (runsO p)).size = 0 := by
  obtain ⟨h1, h2⟩ := runs_not hp
  rw [byt_bs]
  unfold rrB
  rw [h2, h1]
  exact ⟨rfl, rfl⟩
theorem runsT_len2 {s : ByteArray} (hs : s.size ≤ 21) : (runsT (byt s)).length ≤ 84 := by
  obtain ⟨h1, h2, h3⟩ := runsL_back (byt s)
  have hr : RunP (byt s) (byt s).length (runsL (byt s)) := ⟨by rw [h1, List.take_of_length_le (Nat.le_refl _)], h2, h3, fun h => absurd h (Nat.lt_irrefl _)⟩
  rw [byt_size] at hr
  exact runs_len hr (Nat.le_refl _) hs
theorem runsO_len {p : ByteArray} (hp : p.size ≤ 21) : (bs_ (runsO p)).size ≤ 84 := by
  rw [bs_size]
  unfold runsO
  split
  · exact runsT_len2 hp
  · simp
theorem pa_len {s : ByteArray} {xs : List Int} {ts : List ByteArray} {gs : List Hd} (h : cards gs = paR s xs ts) (hs : s.size ≤ 21) : gs.length ≤ 40 ∧ LenD (cards gs) := by
  refine ⟨by rw [← cards_length, h]; exact paR_le _ _ _, ?_⟩
  rw [h]
  intro x hx
  by_cases hz : paC s xs ts = 0
  · rw [paR_0 hz] at hx
    have := paL_wid hx
    omega
  · rw [paR_1 hz] at hx
    cases hx
theorem kd_punched {s : ByteArray} {xs : List Int} {ts : List ByteArray} (h : paC s xs ts = 0) : vaC s xs (paR s xs ts) ts = 0 ∧ vaR s xs (paR s xs ts) ts = [] ∧ (paR s xs ts).length = ts.length := by
  obtain ⟨h1, h2⟩ := punched_all h
  rw [paR_0 h]
  exact ⟨h1, h2, paL_length _ _ _⟩
end Go.Proofs.YtkmejkeanmjfbaaGreatDoor
