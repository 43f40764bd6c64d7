/- slices.IndexFunc and slices.ContainsFunc over []Pass, at a closure whose contract is given. -/
import Derived.Test.YtmfoaggohlfflaaGreatDoorHarnPass
namespace Go.Proofs.YtmfoaggohlfflaaGreatDoor
open Go.RowKit

set_option maxRecDepth 100000 in
set_option maxHeartbeats 400000 in
theorem IndexFuncPass_any (A : Option Addr) (c : Nat) (ps : List (Int × Int)) (F : FuncId) (cap : Array Value) (pred : Int × Int → Bool) (w : World) (ha : Rd w w.heap.size 2 A ps.length (prs ps)) (hl : ps.length ≤ 1048576) (eg : ∀ args w, (callFunc F args).run Tryz.prog w = .ok (.enter F args) w)
    (hf : ∀ p ∈ ps, ∀ w', Below w.heap.size w w' → Calls Tryz.prog F (#[.agg #[.int .i64 p.1, .int .i64 p.2]] ++ cap) w' fun e w'' => e = .returned (.bool (pred p)) ∧ Below w'.heap.size w' w'') :
    Calls Tryz.prog 101 #[.slice A ps.length c, .func (.func F) #[] cap] w fun e w' => e = .returned (.int .i64 (idxP pred ps)) ∧ Below w.heap.size w w' := by
  have HF := Lib.hid hf
  clear hf
  go_enter Tryz.func101, Tryz.ntmps101
  go_wp2
  go_loopw [8] (fun i wr => ∃ k : Nat, k ≤ ps.length ∧ i = .int .i64 k ∧ (ps.take k).any pred = false ∧ Below w.heap.size w wr) (fun i _ => ps.length - (intOf i).toNat)
  case atStart => exact ⟨0, Nat.zero_le _, rfl, rfl, b0 _⟩
  case round =>
    obtain ⟨k, hk, rfl, hno, hbw⟩ := hrel
    have HNO := Lib.hid hno
    clear hno
    by_cases hlt : k < ps.length
    · obtain ⟨b, off, rfl, hbb, hc⟩ := ha.at_ hlt
      have h1 := (hbw.cell (p := ⟨b, off + k * 2, none⟩) hbb).trans (hc _ _ (prs_fst ps k hlt))
      have h2 := (hbw.cell (p := ⟨b, off + (k * 2 + 1), none⟩) hbb).trans (hc _ _ (prs_snd ps k hlt))
      rw [← Nat.add_assoc] at h2
      clear hc ha
      go_wp2_with fail
      refine (HF.out ps[k] (List.getElem_mem hlt) _ hbw).mono ?_; rintro e w1 ⟨rfl, hb1⟩
      by_cases hp : pred ps[k] = true
      · have HP := Lib.hid (idxP_some hlt HNO.out hp)
        go_wp2
        go_ret
        exact ⟨ret_int HP.out.symm, bs hbw hb1⟩
      · have hp' : pred ps[k] = false := by simpa using hp
        have HP := Lib.hid (any_take_succ hlt HNO.out hp')
        clear hp
        go_wp2
        go_roundw
        case rel => exact ⟨k + 1, by omega, by go_num, HP.out, bs hbw hb1⟩
        case measure => simp [intOf]; omega
    · have HP := Lib.hid (idxP_none (any_take_all hlt HNO.out))
      go_wp2
      go_ret
      exact ⟨ret_int HP.out.symm, hbw⟩

theorem ContainsFuncPass_any (A : Option Addr) (c : Nat) (ps : List (Int × Int)) (F : FuncId) (cap : Array Value) (pred : Int × Int → Bool) (w : World) (ha : Rd w w.heap.size 2 A ps.length (prs ps)) (hl : ps.length ≤ 1048576) (eg : ∀ args w, (callFunc F args).run Tryz.prog w = .ok (.enter F args) w)
    (hf : ∀ p ∈ ps, ∀ w', Below w.heap.size w w' → Calls Tryz.prog F (#[.agg #[.int .i64 p.1, .int .i64 p.2]] ++ cap) w' fun e w'' => e = .returned (.bool (pred p)) ∧ Below w'.heap.size w' w'') :
    Calls Tryz.prog 98 #[.slice A ps.length c, .func (.func F) #[] cap] w fun e w' => e = .returned (.bool (ps.any pred)) ∧ Below w.heap.size w w' := by
  have HE := Lib.hid (idxP_ge pred ps)
  have hcon := Lib.hid (IndexFuncPass_any A c ps F cap pred w ha hl eg hf)
  clear hf eg
  go_enter Tryz.func98, Tryz.ntmps98
  go_wp2_with fail
  refine hcon.out.mono ?_; rintro e w1 ⟨rfl, hb1⟩
  go_wp2
  go_ret
  exact ⟨ret_bool HE.out, hb1⟩
end Go.Proofs.YtmfoaggohlfflaaGreatDoor
