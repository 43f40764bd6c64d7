/- slices.IndexFunc and slices.ContainsFunc over decks, at a closure whose contract is given. -/
import Derived.Test.YtmfoaggohlfflaaGreatDoorDecks
namespace Go.Proofs.YtmfoaggohlfflaaGreatDoor
open Go.RowKit

set_option maxRecDepth 100000 in
set_option maxHeartbeats 1000000 in
theorem IndexFuncCard_any (D : Option Addr) (c : Nat) (hs : List Hd) (F : FuncId) (cap : Array Value) (pred : List Int → Bool) (w : World) (ha : RdD w w.heap.size D hs) (hl : hs.length ≤ 1048576) (eg : ∀ args w, (callFunc F args).run Tryz.prog w = .ok (.enter F args) w)
    (hf : ∀ h ∈ hs, ∀ w', Below w.heap.size w w' → Calls Tryz.prog F (#[.agg #[.slice h.a h.xs.length h.c]] ++ cap) w' fun e w'' => e = .returned (.bool (pred h.xs)) ∧ Below w'.heap.size w' w'') :
    Calls Tryz.prog 142 #[.slice D hs.length c, .func (.func F) #[] cap] w fun e w' => e = .returned (.int .i64 (idxP pred (cards hs))) ∧ Below w.heap.size w w' := by
  have HF := Lib.hid hf
  clear hf
  go_enter Tryz.func142, Tryz.ntmps142
  go_wp2
  go_loopw [8] (fun i wr => ∃ k : Nat, k ≤ hs.length ∧ i = .int .i64 k ∧ ((cards hs).take k).any pred = false ∧ Below w.heap.size w wr) (fun i _ => hs.length - (intOf i).toNat)
  case atStart => exact ⟨0, Nat.zero_le _, rfl, rfl, b0 _⟩
  case round =>
    obtain ⟨k, hk, rfl, hno, hbw⟩ := hrel
    have HNO := Lib.hid hno
    clear hno
    by_cases hlt : k < hs.length
    · obtain ⟨b, off, rfl, hbb, hc⟩ := ha.at_ hlt
      have h1 := (hbw.cell (p := ⟨b, off + k, none⟩) hbb).trans (hc k hlt)
      have HCL := Lib.hid (show k < (cards hs).length by rw [cards_length]; exact hlt)
      have HCA := Lib.hid (cards_at hs k HCL.out)
      clear hc ha
      go_wp2_with fail
      refine (HF.out hs[k] (List.getElem_mem hlt) _ hbw).mono ?_; rintro e w1 ⟨rfl, hb1⟩
      by_cases hp : pred hs[k].xs = true
      · have HP := Lib.hid (idxP_some HCL.out HNO.out (by rw [HCA.out]; exact hp))
        go_wp2
        go_ret
        exact ⟨ret_int HP.out.symm, bs hbw hb1⟩
      · have hp' : pred hs[k].xs = false := by simpa using hp
        have HP := Lib.hid (any_take_succ HCL.out HNO.out (by rw [HCA.out]; exact hp'))
        clear hp
        go_wp2
        go_roundw
        case rel => exact ⟨k + 1, by omega, by go_num, HP.out, bs hbw hb1⟩
        case measure => simp [intOf]; omega
    · have HP := Lib.hid (idxP_none (any_take_all (l := cards hs) (by rw [cards_length]; exact hlt) HNO.out))
      go_wp2
      go_ret
      exact ⟨ret_int HP.out.symm, hbw⟩

theorem ContainsFuncCard_any (D : Option Addr) (c : Nat) (hs : List Hd) (F : FuncId) (cap : Array Value) (pred : List Int → Bool) (w : World) (ha : RdD w w.heap.size D hs) (hl : hs.length ≤ 1048576) (eg : ∀ args w, (callFunc F args).run Tryz.prog w = .ok (.enter F args) w)
    (hf : ∀ h ∈ hs, ∀ w', Below w.heap.size w w' → Calls Tryz.prog F (#[.agg #[.slice h.a h.xs.length h.c]] ++ cap) w' fun e w'' => e = .returned (.bool (pred h.xs)) ∧ Below w'.heap.size w' w'') :
    Calls Tryz.prog 102 #[.slice D hs.length c, .func (.func F) #[] cap] w fun e w' => e = .returned (.bool ((cards hs).any pred)) ∧ Below w.heap.size w w' := by
  have HE := Lib.hid (idxP_ge pred (cards hs))
  have hcon := Lib.hid (IndexFuncCard_any D c hs F cap pred w ha hl eg hf)
  clear hf eg
  go_enter Tryz.func102, Tryz.ntmps102
  go_wp2_with fail
  refine hcon.out.mono ?_; rintro e w1 ⟨rfl, hb1⟩
  go_wp2
  go_ret
  exact ⟨ret_bool HE.out, hb1⟩
end Go.Proofs.YtmfoaggohlfflaaGreatDoor
