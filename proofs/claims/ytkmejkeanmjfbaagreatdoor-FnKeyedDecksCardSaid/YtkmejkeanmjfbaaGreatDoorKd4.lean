/- The harness over slices of int64 and over cards: copies, sizes, equal readings, marks. slices.IndexFunc and slices.ContainsFunc over []int64, at a closure whose contract is given. -/
import Derived.Test.YtkmejkeanmjfbaaGreatDoorChecked
import Derived.Test.YtkmejkeanmjfbaaGreatDoorKd1
import Derived.Deep.QuietTactic
import Derived.BigQuiet
/-! ### HarnInts -/
namespace Go.Proofs.YtkmejkeanmjfbaaGreatDoor
open Go.RowKit

theorem info_i64 : (Tryz.prog.info? 2).map (fun i => (i.zero, i.size, i.bytes)) = some (some (.int .i64 0), 1, 8) := by kernel_rfl

/-! ### The same for a law's walk: of memory it is said only that what was there stays. -/
end Go.Proofs.YtkmejkeanmjfbaaGreatDoor

/-! ### FuncsInts -/
namespace Go.Proofs.YtkmejkeanmjfbaaGreatDoor
open Go.RowKit

set_option maxRecDepth 100000 in
set_option maxHeartbeats 400000 in
theorem IndexFuncInts_any (A : Option Addr) (c : Nat) (xs : List Int) (F : FuncId) (cap : Array Value) (pred : Int → Bool) (w : World) (ha : Rd w w.heap.size 1 A xs.length (ints xs)) (hl : xs.length ≤ 1048576) (eg : ∀ args w, (callFunc F args).run Tryz.prog w = .ok (.enter F args) w)
    (hf : ∀ p ∈ xs, ∀ w', Below w.heap.size w w' → Calls Tryz.prog F (#[.int .i64 p] ++ cap) w' fun e w'' => e = .returned (.bool (pred p)) ∧ Below w'.heap.size w' w'') :
    Calls Tryz.prog 104 #[.slice A xs.length c, .func (.func F) #[] cap] w fun e w' => e = .returned (.int .i64 (idxP pred xs)) ∧ Below w.heap.size w w' := by
  have HF := Lib.hid hf
  clear hf
  go_enter Tryz.func104, Tryz.ntmps104
  go_wp2
  go_loopw [8] (fun i wr => ∃ k : Nat, k ≤ xs.length ∧ i = .int .i64 k ∧ (xs.take k).any pred = false ∧ Below w.heap.size w wr) (fun i _ => xs.length - (intOf i).toNat)
  case atStart => exact ⟨0, Nat.zero_le _, rfl, rfl, b0 _⟩
  case round =>
    obtain ⟨k, hk, rfl, hno, hbw⟩ := hrel
    have HNO := Lib.hid hno
    clear hno
    by_cases hlt : k < xs.length
    · obtain ⟨b, off, rfl, hbb, hc⟩ := ha.at_ hlt
      have h1 := (hbw.cell (p := ⟨b, off + k, none⟩) hbb).trans (hc _ _ (ints_get xs k hlt))
      clear hc ha
      go_wp2_with fail
      refine (HF.out xs[k] (List.getElem_mem hlt) _ hbw).mono ?_; rintro e w1 ⟨rfl, hb1⟩
      by_cases hp : pred xs[k] = true
      · have HP := Lib.hid (idxP_some hlt HNO.out hp)
        go_wp2
        go_ret
        exact ⟨ret_int HP.out.symm, bs hbw hb1⟩
      · have hp' : pred xs[k] = false := by simpa using hp
        have HP := Lib.hid (any_take_succ hlt HNO.out hp')
        clear hp
        go_wp2
        go_roundw
        case rel => exact ⟨k + 1, by omega, by go_num, HP.out, bs hbw hb1⟩
        case measure => simp [intOf]; omega
    · have HP := Lib.hid (idxP_none (any_take_all hlt HNO.out))
      go_wp2
      go_ret
      exact ⟨ret_int HP.out.symm, hbw⟩

theorem ContainsFuncInts_any (A : Option Addr) (c : Nat) (xs : List Int) (F : FuncId) (cap : Array Value) (pred : Int → Bool) (w : World) (ha : Rd w w.heap.size 1 A xs.length (ints xs)) (hl : xs.length ≤ 1048576) (eg : ∀ args w, (callFunc F args).run Tryz.prog w = .ok (.enter F args) w)
    (hf : ∀ p ∈ xs, ∀ w', Below w.heap.size w w' → Calls Tryz.prog F (#[.int .i64 p] ++ cap) w' fun e w'' => e = .returned (.bool (pred p)) ∧ Below w'.heap.size w' w'') :
    Calls Tryz.prog 81 #[.slice A xs.length c, .func (.func F) #[] cap] w fun e w' => e = .returned (.bool (xs.any pred)) ∧ Below w.heap.size w w' := by
  have HE := Lib.hid (idxP_ge pred xs)
  have hcon := Lib.hid (IndexFuncInts_any A c xs F cap pred w ha hl eg hf)
  clear hf eg
  go_enter Tryz.func81, Tryz.ntmps81
  go_wp2_with fail
  refine hcon.out.mono ?_; rintro e w1 ⟨rfl, hb1⟩
  go_wp2
  go_ret
  exact ⟨ret_bool HE.out, hb1⟩
end Go.Proofs.YtkmejkeanmjfbaaGreatDoor
