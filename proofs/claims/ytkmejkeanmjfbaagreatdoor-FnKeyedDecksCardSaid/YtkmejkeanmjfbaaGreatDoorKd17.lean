/- Program cards and keys: letters, valid programs, how many keys are needed, the code of keys, the card that is punched; in the program and in the reference. The code of keys for a program card, the card that is punched, and the first column that differs; in the program and in the reference. The code of keys and the card that is punched, in the reference; the first column that differs, in both. The first column that differs, and the code of a program card and cards; in the program and in the reference. -/
import Derived.Test.YtkmejkeanmjfbaaGreatDoorKd10
import Derived.Test.YtkmejkeanmjfbaaGreatDoorKd14
import Derived.Test.YtkmejkeanmjfbaaGreatDoorKd5
import Derived.Test.YtkmejkeanmjfbaaGreatDoorKd15
import Derived.Lib.Strings
import Derived.Lib.Bytealg
import Derived.Deep.RegionHeld3
import Derived.Test.YtkmejkeanmjfbaaGreatDoorKd16
import Derived.Test.YtkmejkeanmjfbaaGreatDoorKd8
import Derived.Deep.QuietTactic
/-! ### PunchAll -/
/-! ### Program cards and keys: letters, valid programs, how many keys are needed, the code of keys, the card that is punched; in the program and in the reference. -/
namespace Go.Proofs.YtkmejkeanmjfbaaGreatDoor
open Go.RowKit

/-! ### letters -/
def letN (n : Int) : Bool := (n == 109) || ((n == 110) || ((n == 115) || (n == 100)))
def keyN (n : Int) : Bool := (n == 109) || (n == 110)
theorem isLetter_any (n : Int) (w : World) : Calls Tryz.prog 88 #[.int .u8 n] w fun e w' => e = .returned (.bool (letN n)) ∧ w = w' := by
  have HL := Lib.hid (show letN n = ((n == 109) || ((n == 110) || ((n == 115) || (n == 100)))) from rfl)
  obtain ⟨a, ha⟩ : ∃ a, a = (n == 109) := ⟨_, rfl⟩
  obtain ⟨b, hb⟩ : ∃ b, b = (n == 110) := ⟨_, rfl⟩
  obtain ⟨c, hc⟩ : ∃ c, c = (n == 115) := ⟨_, rfl⟩
  obtain ⟨d, hd⟩ : ∃ d, d = (n == 100) := ⟨_, rfl⟩
  rw [← ha, ← hb, ← hc, ← hd] at HL
  replace ha := ha.symm
  replace hb := hb.symm
  replace hc := hc.symm
  replace hd := hd.symm
  cases a <;> cases b <;> cases c <;> cases d
  all_goals
    go_enter Tryz.func88, Tryz.ntmps88
    go_wp2
    go_ret
    exact ⟨ret_bool (by rw [HL.out]; rfl), rfl⟩
theorem l05Letter_any (n : Int) (w : World) : Calls Tryz.prog 63 #[.int .u8 n] w fun e w' => e = .returned (.bool (letN n)) ∧ w = w' := by
  have HL := Lib.hid (show letN n = ((n == 109) || ((n == 110) || ((n == 115) || (n == 100)))) from rfl)
  obtain ⟨a, ha⟩ : ∃ a, a = (n == 109) := ⟨_, rfl⟩
  obtain ⟨b, hb⟩ : ∃ b, b = (n == 110) := ⟨_, rfl⟩
  obtain ⟨c, hc⟩ : ∃ c, c = (n == 115) := ⟨_, rfl⟩
  obtain ⟨d, hd⟩ : ∃ d, d = (n == 100) := ⟨_, rfl⟩
  rw [← ha, ← hb, ← hc, ← hd] at HL
  replace ha := ha.symm
  replace hb := hb.symm
  replace hc := hc.symm
  replace hd := hd.symm
  cases a <;> cases b <;> cases c <;> cases d
  all_goals
    go_enter Tryz.func63, Tryz.ntmps63
    go_wp2
    go_ret
    exact ⟨ret_bool (by rw [HL.out]; rfl), rfl⟩
theorem l05Keyed_any (n : Int) (w : World) : Calls Tryz.prog 76 #[.int .u8 n] w fun e w' => e = .returned (.bool (keyN n)) ∧ w = w' := by
  have HL := Lib.hid (show keyN n = ((n == 109) || (n == 110)) from rfl)
  obtain ⟨a, ha⟩ : ∃ a, a = (n == 109) := ⟨_, rfl⟩
  obtain ⟨b, hb⟩ : ∃ b, b = (n == 110) := ⟨_, rfl⟩
  rw [← ha, ← hb] at HL
  replace ha := ha.symm
  replace hb := hb.symm
  cases a <;> cases b
  all_goals
    go_enter Tryz.func76, Tryz.ntmps76
    go_wp2
    go_ret
    exact ⟨ret_bool (by rw [HL.out]; rfl), rfl⟩

/-! ### valid programs -/
def letC (c : UInt8) : Bool := letN (c.toNat : Int)
def keyC (c : UInt8) : Bool := keyN (c.toNat : Int)
def progB (s : ByteArray) : Bool := (byt s).all letC && insideB (s.size : Int) 1 20
theorem progB_len {s : ByteArray} (h : progB s = true) : 1 ≤ s.size ∧ s.size ≤ 20 := by
  simp only [progB, Bool.and_eq_true] at h
  have := insideB_true h.2
  omega
theorem progB_no {s : ByteArray} (h : (byt s).all letC = false) : progB s = false := by unfold progB; rw [h]; rfl
theorem progB_yes {s : ByteArray} (h : (byt s).all letC = true) : progB s = insideB (s.size : Int) 1 20 := by unfold progB; rw [h]; rfl
theorem ValidProgram_any (s : ByteArray) (w : World) (hl : s.size ≤ 1048576) : Calls Tryz.prog 52 #[.string s] w fun e w' => e = .returned (.bool (progB s)) ∧ w = w' := by
  have HA := Lib.hid (any_not_allI letC (byt s))
  have HS := Lib.hid (byt_size s)
  go_enter Tryz.func52, Tryz.ntmps52
  go_wp2
  go_loop [3] (fun i => ∃ k : Nat, k ≤ s.size ∧ i = .int .i64 k ∧ ((byt s).take k).any (fun c => !letC c) = false) (fun i => s.size - (intOf i).toNat)
  case atStart => exact ⟨0, by omega, rfl, rfl⟩
  case round =>
    obtain ⟨k, hk, rfl, hno⟩ := hrel
    have HNO := Lib.hid hno
    clear hno
    by_cases hlt : k < s.size
    · have HKL := Lib.hid (show k < (byt s).length by rw [HS.out]; exact hlt)
      have HAT := Lib.hid (byt_at s k hlt)
      rcases Bool.eq_false_or_eq_true (letN (s[k].toNat : Int)) with hp | hp
      · have HB2 := Lib.hid (show letC ((byt s)[k]'HKL.out) = true by rw [HAT.out]; exact hp)
        have HP := Lib.hid (any_take_succ (p := fun c => !letC c) HKL.out HNO.out (by rw [HB2.out]; rfl))
        go_wp2_with fail
        refine (isLetter_any (s[k].toNat : Int) _).mono ?_; rintro e w1 ⟨rfl, rfl⟩
        go_wp2
        go_round
        case rel => exact ⟨k + 1, by omega, by go_num, HP.out⟩
        case measure => simp [intOf]; omega
      · have HB2 := Lib.hid (show letC ((byt s)[k]'HKL.out) = false by rw [HAT.out]; exact hp)
        have HP := Lib.hid (progB_no (List.all_eq_false.2 ⟨(byt s)[k]'HKL.out, List.getElem_mem HKL.out, by rw [HB2.out]; simp⟩))
        go_wp2_with fail
        refine (isLetter_any (s[k].toNat : Int) _).mono ?_; rintro e w1 ⟨rfl, rfl⟩
        go_wp2
        go_ret
        exact ⟨ret_bool HP.out.symm, rfl⟩
    · have HP := Lib.hid (progB_yes (s := s) (by
        have h1 := any_take_all (l := byt s) (by rw [HS.out]; exact hlt) HNO.out
        rw [HA.out] at h1
        simpa using h1))
      go_wp2_with fail
      refine (inside_any _ _ _ _).mono ?_; rintro e w1 ⟨rfl, rfl⟩
      go_wp2
      go_ret
      exact ⟨ret_bool HP.out.symm, rfl⟩
theorem l05Ok_any (s : ByteArray) (w : World) (hl : s.size ≤ 1048576) : Calls Tryz.prog 65 #[.string s] w fun e w' => e = .returned (.bool (progB s)) ∧ w = w' := by
  have HA := Lib.hid (any_not_allI letC (byt s))
  have HS := Lib.hid (byt_size s)
  go_enter Tryz.func65, Tryz.ntmps65
  go_wp2
  go_loop [3] (fun i => ∃ k : Nat, k ≤ s.size ∧ i = .int .i64 k ∧ ((byt s).take k).any (fun c => !letC c) = false) (fun i => s.size - (intOf i).toNat)
  case atStart => exact ⟨0, by omega, rfl, rfl⟩
  case round =>
    obtain ⟨k, hk, rfl, hno⟩ := hrel
    have HNO := Lib.hid hno
    clear hno
    by_cases hlt : k < s.size
    · have HKL := Lib.hid (show k < (byt s).length by rw [HS.out]; exact hlt)
      have HAT := Lib.hid (byt_at s k hlt)
      rcases Bool.eq_false_or_eq_true (letN (s[k].toNat : Int)) with hp | hp
      · have HB2 := Lib.hid (show letC ((byt s)[k]'HKL.out) = true by rw [HAT.out]; exact hp)
        have HP := Lib.hid (any_take_succ (p := fun c => !letC c) HKL.out HNO.out (by rw [HB2.out]; rfl))
        go_wp2_with fail
        refine (l05Letter_any (s[k].toNat : Int) _).mono ?_; rintro e w1 ⟨rfl, rfl⟩
        go_wp2
        go_round
        case rel => exact ⟨k + 1, by omega, by go_num, HP.out⟩
        case measure => simp [intOf]; omega
      · have HB2 := Lib.hid (show letC ((byt s)[k]'HKL.out) = false by rw [HAT.out]; exact hp)
        have HP := Lib.hid (progB_no (List.all_eq_false.2 ⟨(byt s)[k]'HKL.out, List.getElem_mem HKL.out, by rw [HB2.out]; simp⟩))
        go_wp2_with fail
        refine (l05Letter_any (s[k].toNat : Int) _).mono ?_; rintro e w1 ⟨rfl, rfl⟩
        go_wp2
        go_ret
        exact ⟨ret_bool HP.out.symm, rfl⟩
    · have HP := Lib.hid (progB_yes (s := s) (by
        have h1 := any_take_all (l := byt s) (by rw [HS.out]; exact hlt) HNO.out
        rw [HA.out] at h1
        simpa using h1))
      go_wp2_with fail
      refine (l00In_any _ _ _ _).mono ?_; rintro e w1 ⟨rfl, rfl⟩
      go_wp2
      go_ret
      exact ⟨ret_bool HP.out.symm, rfl⟩

/-! ### how many keys -/
def keysTo (s : ByteArray) (i : Nat) : Nat := ((byt s).take i).countP keyC
def keysN (s : ByteArray) : Nat := (byt s).countP keyC
theorem keysTo_all (s : ByteArray) : keysTo s s.size = keysN s := by unfold keysTo keysN; rw [List.take_of_length_le (by rw [byt_size]; omega)]
theorem keysTo_succ {s : ByteArray} {i : Nat} (h : i < s.size) : keysTo s (i + 1) = keysTo s i + if keyN (s[i].toNat : Int) = true then 1 else 0 := by
  unfold keysTo
  rw [List.take_succ_eq_append_getElem (by rw [byt_size]; exact h), List.countP_append, byt_at s i h]
  congr 1
  simp only [List.countP_cons, List.countP_nil, Nat.zero_add]
  rfl
theorem keysTo_yes {s : ByteArray} {i : Nat} (h : i < s.size) (hk : keyN (s[i].toNat : Int) = true) : keysTo s (i + 1) = keysTo s i + 1 := by rw [keysTo_succ h, if_pos hk]
theorem keysTo_no {s : ByteArray} {i : Nat} (h : i < s.size) (hk : keyN (s[i].toNat : Int) = false) : keysTo s (i + 1) = keysTo s i := by rw [keysTo_succ h, if_neg (by simp [hk])]; rfl
theorem keysTo_le (s : ByteArray) (i : Nat) : keysTo s i ≤ keysN s := by
  unfold keysTo keysN
  exact List.Sublist.countP_le (List.take_sublist _ _)
theorem keysTo_lt {s : ByteArray} {i : Nat} (h : i < s.size) (hk : keyN (s[i].toNat : Int) = true) : keysTo s i < keysN s := by
  have := keysTo_le s (i + 1)
  rw [keysTo_yes h hk] at this
  omega
theorem keysN_le (s : ByteArray) : keysN s ≤ s.size := by
  have := List.countP_le_length (p := keyC) (l := byt s)
  rw [byt_size] at this
  exact this
theorem keysN_two (s : ByteArray) : (byt s).count 109 + (byt s).count 110 = keysN s := by
  unfold keysN
  induction byt s with
  | nil => rfl
  | cons c l ih =>
    rw [List.count_cons, List.count_cons, List.countP_cons]
    have hk : keyC c = ((c == 109) || (c == 110)) := by
      have h : ∀ n : Fin 256, keyC (UInt8.ofNat n.val) = ((UInt8.ofNat n.val == 109) || (UInt8.ofNat n.val == 110)) := by decide +kernel
      have := h ⟨c.toNat, UInt8.toNat_lt c⟩
      simpa using this
    rw [hk]
    by_cases h1 : c = 109
    · subst h1
      simp
      omega
    · by_cases h2 : c = 110
      · subst h2
        simp
        omega
      · have e1 : (c == 109) = false := beq_eq_false_iff_ne.2 h1
        have e2 : (c == 110) = false := beq_eq_false_iff_ne.2 h2
        rw [e1, e2]
        simp
        exact ih
set_option maxHeartbeats 1000000 in
set_option maxRecDepth 100000 in
theorem stringsCount_any (s : ByteArray) (c : UInt8) (w : World) :
    Calls Tryz.prog 102 #[.string s, .string ⟨#[c]⟩] w fun e w' => e = .returned (.int .i64 ((byt s).count c : Nat)) ∧ w = w' := by
  go_enter Tryz.func102, Tryz.ntmps102
  go_wp2
  rw [run_callFunc_extern Tryz.func118 (by kernel_rfl) (by kernel_rfl) (by kernel_rfl) (e := Extern.BytealgCount.count) (by kernel_rfl), Lib.run_countString]
  simp only [Result.andThen]
  rw [Oper.upon_value]
  go_wp2
  go_ret
  exact ⟨ret_int (by simp [Lib.countByte, byt, Nat.toUInt8]; rfl), rfl⟩
theorem keysNeeded_any (s : ByteArray) (w : World) (hl : s.size ≤ 1048576) : Calls Tryz.prog 73 #[.string s] w fun e w' => e = .returned (.int .i64 (keysN s : Int)) ∧ w = w' := by
  have HT := Lib.hid (keysN_two s)
  have h2 := keysN_le s
  obtain ⟨a, ha⟩ : ∃ a, a = (byt s).count 109 := ⟨_, rfl⟩
  obtain ⟨b, hb⟩ : ∃ b, b = (byt s).count 110 := ⟨_, rfl⟩
  have HA := Lib.hid ha
  have HB := Lib.hid hb
  have hab : a + b ≤ 1048576 := by have := HT.out; omega
  have HS := Lib.hid (show (a : Int) + (b : Int) = (keysN s : Int) by have := HT.out; omega)
  clear ha hb h2
  go_enter Tryz.func73, Tryz.ntmps73
  go_wp2_with fail
  refine (stringsCount_any s 109 _).mono ?_
  rw [← HA.out]
  rintro e w1 ⟨rfl, rfl⟩
  go_wp2_with fail
  refine (stringsCount_any s 110 _).mono ?_
  rw [← HB.out]
  rintro e w1 ⟨rfl, rfl⟩
  go_wp2
  go_ret
  exact ⟨ret_int (by first | exact HS.out | (rw [← HS.out])), rfl⟩
theorem l05Keys_any (s : ByteArray) (w : World) (hl : s.size ≤ 1048576) : Calls Tryz.prog 75 #[.string s] w fun e w' => e = .returned (.int .i64 (keysN s : Int)) ∧ w = w' := by
  have HN := Lib.hid (keysTo_all s)
  have hle := keysN_le s
  go_enter Tryz.func75, Tryz.ntmps75
  go_wp2
  go_loop [3, 4] (fun n i => ∃ k : Nat, k ≤ s.size ∧ i = .int .i64 k ∧ n = .int .i64 (keysTo s k : Nat)) (fun _ i => s.size - (intOf i).toNat)
  case atStart => exact ⟨0, by omega, rfl, rfl⟩
  case round =>
    obtain ⟨k, hk, rfl, rfl⟩ := hrel
    by_cases hlt : k < s.size
    · have h3 := keysTo_le s k
      rcases Bool.eq_false_or_eq_true (keyN (s[k].toNat : Int)) with hp | hp
      · have HK := Lib.hid (keysTo_yes hlt hp)
        have HE := Lib.hid (show ((keysTo s k : Nat) : Int) + 1 = ((keysTo s (k + 1) : Nat) : Int) by rw [HK.out]; rfl)
        obtain ⟨q, hq⟩ : ∃ q, q = keysTo s k := ⟨_, rfl⟩
        rw [← hq] at h3 HE ⊢
        have HQ := Lib.hid hq
        clear hq
        have hp' := hp
        go_wp2_with fail
        refine (l05Keyed_any (s[k].toNat : Int) _).mono ?_; rintro e w1 ⟨rfl, rfl⟩
        go_wp2
        go_round
        case rel => exact ⟨k + 1, by omega, by go_num, by rw [← HE.out]⟩
        case measure => simp [intOf]; omega
      · have HK := Lib.hid (keysTo_no hlt hp)
        go_wp2_with fail
        refine (l05Keyed_any (s[k].toNat : Int) _).mono ?_; rintro e w1 ⟨rfl, rfl⟩
        go_wp2
        go_round
        case rel => exact ⟨k + 1, by omega, by go_num, by rw [HK.out]⟩
        case measure => simp [intOf]; omega
    · obtain rfl : k = s.size := by omega
      go_wp2
      go_ret
      exact ⟨ret_int (by rw [HN.out]), rfl⟩
end Go.Proofs.YtkmejkeanmjfbaaGreatDoor

/-! ### The code of keys for a program card, the card that is punched, and the first column that differs; in the program and in the reference. -/
namespace Go.Proofs.YtkmejkeanmjfbaaGreatDoor
open Go.RowKit

/-! ### plain -/
def byC (s : ByteArray) (i : Nat) : UInt8 := (byt s).getD i 0
theorem byC_at {s : ByteArray} {i : Nat} (h : i < s.size) : byC s i = s[i] := by
  unfold byC
  have h2 : i < (byt s).length := by rw [byt_size]; exact h
  rw [List.getD_eq_getElem?_getD, List.getElem?_eq_getElem h2, byt_at s i h]
  rfl
/-- The code of a column's key. -/
def chkAt (s t : ByteArray) (i : Nat) : Int :=
  if keyN ((byC s i).toNat : Int) = true then (if chB (byC t (keysTo s i)) = true then (if ((byC s i).toNat : Int) = 110 ∧ digB ((byC t (keysTo s i)).toNat : Int) = false then 10 else 0) else 7) else 0
def chkO (s t : ByteArray) (i : Nat) : Option Int := if chkAt s t i = 0 then none else some (chkAt s t i)
def chkC (s t : ByteArray) : Int := if t.size = keysN s then (((List.range s.size).findSome? (chkO s t)).getD 0) else 5
def NoChk (s t : ByteArray) (k : Nat) : Prop := ∀ j, j < k → chkAt s t j = 0
theorem NoChk.zero (s t : ByteArray) : NoChk s t 0 := fun j h => absurd h (Nat.not_lt_zero j)
theorem NoChk.succ {s t : ByteArray} {k : Nat} (h : NoChk s t k) (hk : chkAt s t k = 0) : NoChk s t (k + 1) := by
  intro j hj
  rcases Nat.lt_succ_iff_lt_or_eq.1 hj with hj | rfl
  · exact h j hj
  · exact hk
theorem ff_some {α : Type} {f : Nat → Option α} {n k : Nat} {v : α} (hk : k < n) (hno : ∀ j, j < k → f j = none) (h : f k = some v) : (List.range n).findSome? f = some v := by
  induction n with
  | zero => omega
  | succ n ih =>
    rw [List.range_succ, List.findSome?_append]
    by_cases e : k = n
    · subst e
      have : (List.range k).findSome? f = none := by
        rw [List.findSome?_eq_none_iff]
        intro j hj
        exact hno j (List.mem_range.1 hj)
      rw [this]
      simp [h]
    · rw [ih (by omega)]
      rfl
theorem chk_some {s t : ByteArray} {k : Nat} {v : Int} (hz : t.size = keysN s) (hk : k < s.size) (hno : NoChk s t k) (h : chkAt s t k = v) (hv : v ≠ 0) : chkC s t = v := by
  unfold chkC
  rw [if_pos hz, ff_some hk (fun j hj => by unfold chkO; rw [if_pos (hno j hj)]) (show chkO s t k = some v by unfold chkO; rw [if_neg (by rw [h]; exact hv), h])]
  rfl
theorem chk_none {s t : ByteArray} (hz : t.size = keysN s) (hno : NoChk s t s.size) : chkC s t = 0 := by
  unfold chkC
  have : (List.range s.size).findSome? (chkO s t) = none := by
    rw [List.findSome?_eq_none_iff]
    intro j hj
    unfold chkO
    rw [if_pos (hno j (List.mem_range.1 hj))]
  rw [if_pos hz, this]
  rfl
theorem chk_len {s t : ByteArray} (hz : ¬ t.size = keysN s) : chkC s t = 5 := by unfold chkC; rw [if_neg hz]
theorem chk_zero {s t : ByteArray} (h : chkC s t = 0) : t.size = keysN s ∧ NoChk s t s.size := by
  by_cases hz : t.size = keysN s
  · refine ⟨hz, fun j hj => ?_⟩
    unfold chkC at h
    rw [if_pos hz] at h
    cases hf : (List.range s.size).findSome? (chkO s t) with
    | none =>
      have := List.findSome?_eq_none_iff.1 hf j (List.mem_range.2 hj)
      unfold chkO at this
      split at this
      · assumption
      · cases this
    | some v =>
      rw [hf] at h
      obtain ⟨i, _, hi⟩ := List.exists_of_findSome?_eq_some hf
      unfold chkO at hi
      split at hi
      · cases hi
      · rename_i h0
        injection hi with hi
        rw [hi] at h0
        exact absurd h h0
  · rw [chk_len hz] at h
    omega
/-- A column of the card that is punched. -/
def pchAt (s : ByteArray) (xs : List Int) (t : ByteArray) (i : Nat) : Int := if keyN ((byC s i).toNat : Int) = true then codeV (byC t (keysTo s i)).toNat else if ((byC s i).toNat : Int) = 100 then xs.getD i 0 else 0
def pchL (s : ByteArray) (xs : List Int) (t : ByteArray) : List Int := (List.range s.size).map (pchAt s xs t)
theorem pchL_length (s : ByteArray) (xs : List Int) (t : ByteArray) : (pchL s xs t).length = s.size := by simp [pchL]
theorem pchL_at {s : ByteArray} {xs : List Int} {t : ByteArray} {k : Nat} (h : k < (pchL s xs t).length) : (pchL s xs t)[k] = pchAt s xs t k := by simp [pchL]
def pchTo (s : ByteArray) (xs : List Int) (t : ByteArray) (k : Nat) : List Int := (pchL s xs t).take k ++ List.replicate (s.size - k) 0
theorem pchTo_zero (s : ByteArray) (xs : List Int) (t : ByteArray) : pchTo s xs t 0 = List.replicate s.size 0 := by simp [pchTo]
theorem pchTo_all (s : ByteArray) (xs : List Int) (t : ByteArray) : pchTo s xs t s.size = pchL s xs t := by
  unfold pchTo
  rw [List.take_of_length_le (by rw [pchL_length]; omega)]
  simp
theorem pchTo_length {s : ByteArray} {xs : List Int} {t : ByteArray} {k : Nat} (h : k ≤ s.size) : (pchTo s xs t k).length = s.size := by
  unfold pchTo
  rw [List.length_append, List.length_take, pchL_length, List.length_replicate]
  omega
theorem pchTo_set {s : ByteArray} {xs : List Int} {t : ByteArray} {k : Nat} {v : Int} (h : k < s.size) (hv : pchAt s xs t k = v) : (pchTo s xs t k).set k v = pchTo s xs t (k + 1) := by
  have hl : ((pchL s xs t).take k).length = k := by rw [List.length_take, pchL_length]; omega
  unfold pchTo
  rw [List.set_append_right _ _ (by omega), hl, Nat.sub_self, show s.size - k = (s.size - (k + 1)) + 1 by omega, List.replicate_succ, List.set_cons_zero,
    List.take_succ_eq_append_getElem (by rw [pchL_length]; exact h), pchL_at, hv, List.append_assoc]
  rfl
theorem pchTo_stay {s : ByteArray} {xs : List Int} {t : ByteArray} {k : Nat} (h : k < s.size) (hv : pchAt s xs t k = 0) : pchTo s xs t k = pchTo s xs t (k + 1) := by
  unfold pchTo
  rw [show s.size - k = (s.size - (k + 1)) + 1 by omega, List.replicate_succ, List.take_succ_eq_append_getElem (by rw [pchL_length]; exact h), pchL_at, hv, List.append_assoc]
  rfl
def pchR (s : ByteArray) (xs : List Int) (t : ByteArray) : List Int := if chkC s t = 0 then pchL s xs t else []
theorem pchR_0 {s : ByteArray} {xs : List Int} {t : ByteArray} (h : chkC s t = 0) : pchR s xs t = pchL s xs t := by unfold pchR; rw [if_pos h]
theorem pchR_1 {s : ByteArray} {xs : List Int} {t : ByteArray} (h : ¬ chkC s t = 0) : pchR s xs t = [] := by unfold pchR; rw [if_neg h]
/-- The four letters. -/
theorem letters {s : ByteArray} (h : progB s = true) {k : Nat} (hk : k < s.size) : (s[k].toNat : Int) = 109 ∨ (s[k].toNat : Int) = 110 ∨ (s[k].toNat : Int) = 115 ∨ (s[k].toNat : Int) = 100 := by
  simp only [progB, Bool.and_eq_true] at h
  have h2 := List.all_eq_true.1 h.1 ((byt s)[k]'(by rw [byt_size]; exact hk)) (List.getElem_mem _)
  rw [byt_at s k hk] at h2
  simp only [letC, letN, Bool.or_eq_true, beq_iff_eq] at h2
  exact h2
section
variable {s t : ByteArray} {xs : List Int} {k : Nat}
theorem at_dup (hk : k < s.size) (hx : xs.length = s.size) (h : (s[k].toNat : Int) = 100) : keyN (s[k].toNat : Int) = false ∧ chkAt s t k = 0 ∧ pchAt s xs t k = xs[k]'(by omega) := by
  have hn : keyN (s[k].toNat : Int) = false := by rw [h]; rfl
  refine ⟨hn, ?_, ?_⟩
  · unfold chkAt; rw [byC_at hk, hn]; rfl
  · unfold pchAt; rw [byC_at hk, hn, if_neg (by simp), if_pos h]; simp [List.getD, List.getElem?_eq_getElem (show k < xs.length by omega)]
theorem at_skip (hk : k < s.size) (h : (s[k].toNat : Int) = 115) : keyN (s[k].toNat : Int) = false ∧ chkAt s t k = 0 ∧ pchAt s xs t k = 0 := by
  have hn : keyN (s[k].toNat : Int) = false := by rw [h]; rfl
  refine ⟨hn, ?_, ?_⟩
  · unfold chkAt; rw [byC_at hk, hn]; rfl
  · unfold pchAt; rw [byC_at hk, hn, if_neg (by simp), if_neg (by omega)]
theorem at_key {q : Nat} (hqq : q = keysTo s k) (hk : k < s.size) (h : (s[k].toNat : Int) = 109 ∨ (s[k].toNat : Int) = 110) (hq : q < t.size) : keyN (s[k].toNat : Int) = true ∧ chkAt s t k = (if chB t[q] = true then (if (s[k].toNat : Int) = 110 ∧ digB (t[q].toNat : Int) = false then 10 else 0) else 7) ∧ pchAt s xs t k = codeV t[q].toNat := by
  subst hqq
  have hn : keyN (s[k].toNat : Int) = true := by rcases h with h | h <;> rw [h] <;> rfl
  refine ⟨hn, ?_, ?_⟩
  · unfold chkAt; rw [byC_at hk, byC_at hq, if_pos hn]
  · unfold pchAt; rw [byC_at hk, byC_at hq, if_pos hn]
end

/-- Behind k columns. -/
def PnR (s t : ByteArray) (xs : List Int) (A : Option Addr) (c g b3 : Nat) (w wq wr : World) (q9 q : Value) : Prop := ∃ k : Nat, k ≤ s.size ∧ q = .int .i64 k ∧ q9 = .int .i64 (keysTo s k : Nat) ∧ NoChk s t k ∧
  wr.ownsRow wq.heap.size 2 1 (.slice (some ⟨g, 0, none⟩) s.size s.size) s.size (ints (pchTo s xs t k)) ∧ wr.cell? ⟨w.heap.size, 0, none⟩ = some (.slice A s.size c) ∧ wr.cell? ⟨w.heap.size + 1, 0, none⟩ = some (.slice none 0 0) ∧
  wr.frozen? ⟨w.heap.size + 1, 0, none⟩ = false ∧ wr.cell? ⟨b3, 0, none⟩ = some (.slice (some ⟨g, 0, none⟩) s.size s.size) ∧ Below wq.heap.size wq wr ∧ b3 < wr.heap.size

set_option maxRecDepth 100000 in
set_option maxHeartbeats 8000000 in
theorem punched_any (s t : ByteArray) (A : Option Addr) (c : Nat) (xs : List Int) (w : World) (hp : progB s = true) (hx : xs.length = s.size) (ha : Rd w w.heap.size 1 A s.size (ints xs)) (ht : t.size ≤ 1048576) :
    Calls Tryz.prog 32 #[.string s, .agg #[.slice A s.size c], .string t] w fun e w' => ∃ B d, e = .returned (.tuple #[.agg #[.slice B (pchR s xs t).length d], .int .i64 (chkC s t)]) ∧
      w'.ownsRow w.heap.size 2 1 (.slice B (pchR s xs t).length d) (pchR s xs t).length (ints (pchR s xs t)) ∧ Below w.heap.size w w' := by
  obtain ⟨hs1, hs20⟩ := progB_len hp
  obtain ⟨W, hW⟩ : ∃ W, W = (w.alloc (.cells #[.slice A s.size c] 26)).alloc (.cells #[.slice none 0 0] 26) := ⟨_, rfl⟩
  have T0 : Below w.heap.size w W := by rw [hW]; exact ba (ba (b0 w) _) _
  have ra : Rd W W.heap.size 1 A s.size (ints xs) := by rw [hW]; exact (ha.a1 _).a1 _
  have k1 : W.cell? ⟨w.heap.size, 0, none⟩ = some (.slice A s.size c) := by rw [hW]; exact cell_alloc (cell_new rfl rfl) _
  have k2 : W.cell? ⟨w.heap.size + 1, 0, none⟩ = some (.slice none 0 0) := by rw [hW]; exact cell_new (by simp) rfl
  have f2 : W.frozen? ⟨w.heap.size + 1, 0, none⟩ = false := by rw [hW]; exact froz_new (by simp)
  have z0 : W.heap.size = w.heap.size + 1 + 1 := by rw [hW]; simp
  have HW := Lib.hid hW
  have HP := Lib.hid hp
  have HX := Lib.hid hx
  obtain ⟨K, hK⟩ : ∃ K, K = keysN s := ⟨_, rfl⟩
  have hK20 : K ≤ 20 := by have := keysN_le s; omega
  have HK := Lib.hid hK
  clear hW ha hp hx hK
  go_enter Tryz.func32, Tryz.ntmps32
  go_wp2_with fail
  rw [← HW.out]
  refine (keysNeeded_any s _ (by omega)).mono ?_
  rw [← HK.out]
  rintro e w1 ⟨rfl, rfl⟩
  by_cases hl : t.size = K
  · have i1 : ((t.size : Int) != (K : Int)) = false := bne_f (by omega)
    have HL := Lib.hid (show t.size = keysN s by rw [hl, HK.out])
    clear hl
    go_wp2_with fail
    refine (blank_any s.size _ (by omega)).mono ?_; rintro e w2 ⟨B, rfl, ho, hb2⟩
    obtain ⟨g, rfl, hg, hglt⟩ := own_at ho hs1
    have hgne : ¬ g = w2.heap.size := by omega
    have hgne1 : ¬ g = w.heap.size := by omega
    have hgne2 : ¬ g = w.heap.size + 1 := by omega
    have z2 := hb2.size
    have TB := ba hb2 (.cells #[.slice (some ⟨g, 0, none⟩) s.size s.size] 26)
    have ho3 := ho.alloc (.cells #[.slice (some ⟨g, 0, none⟩) s.size s.size] 26)
    have q1 := cell_later TB k1
    have q2 := cell_later TB k2
    have g2 := froz_later TB f2 (by omega)
    have HO3 := Lib.hid (show _ from ho3)
    clear ho hb2 i1
    go_wp2
    go_loopw [9, 10, 11] (fun q9 q _ wr => PnR s t xs A c g w2.heap.size w W wr q9 q) (fun _ q _ _ => s.size - (intOf q).toNat)
    case atStart => exact ⟨0, Nat.zero_le _, rfl, rfl, NoChk.zero _ _, by rw [pchTo_zero]; exact ho3, q1, q2, g2, cell_new rfl rfl, TB, by simp⟩
    case round =>
      obtain ⟨wo, rfl⟩ : ∃ wo : World, wo = wr := ⟨_, rfl⟩
      obtain ⟨k, hk, rfl, rfl, hno, hown, p1, p2, p2f, p3, hbw, hz7⟩ := hrel
      have HNO := Lib.hid hno
      clear hno q1 q2 g2 ho3
      by_cases hlt : k < s.size
      · have hkl : k < (ints (pchTo s xs t k)).length := by rw [ints_length, pchTo_length (by omega)]; exact hlt
        have c6 := own_cell hown k hkl
        have c7 := hown.frozenAt k
        have i1 : (k : Int) < (s.size : Int) := by omega
        have hsz := hbw.size
        have HST := Lib.hid (show ∀ v : Int, pchAt s xs t k = v → (wo.setCell ⟨g, k, none⟩ (.int .i64 v)).ownsRow W.heap.size 2 1 (.slice (some ⟨g, 0, none⟩) s.size s.size) s.size (ints (pchTo s xs t (k + 1))) from fun v hv => by
          rw [← pchTo_set hlt hv, ints_set]
          exact ownsRow_set hown k _)
        have HB := Lib.hid (show ∀ v : Int, Below W.heap.size W (wo.setCell ⟨g, k, none⟩ (.int .i64 v)) from fun v => bset hbw g k (.int .i64 v) hg)
        have P1 := Lib.hid p1
        have P2 := Lib.hid p2
        have P2F := Lib.hid p2f
        have P3 := Lib.hid p3
        have HREL := Lib.hid (show ∀ (v : Int) (wt : World) (q9 : Value), pchAt s xs t k = v → chkAt s t k = 0 → q9 = .int .i64 (keysTo s (k + 1) : Nat) → (wt = wo.setCell ⟨g, k, none⟩ (.int .i64 v) ∨ wt = (wo.setCell ⟨g, k, none⟩ (.int .i64 v)).drew) → PnR s t xs A c g w2.heap.size w W wt q9 (.int .i64 ((k : Int) + 1)) from fun v wt q9 hv hc hq hw => by
          have TX : Below (wo.setCell ⟨g, k, none⟩ (.int .i64 v)).heap.size (wo.setCell ⟨g, k, none⟩ (.int .i64 v)) wt := by
            rcases hw with rfl | rfl
            · exact b0 _
            · exact (b0 _).drew
          refine ⟨k + 1, by omega, by go_num, hq, HNO.out.succ hc, own_bs (HST.out v hv) TX, cell_later TX (set_far P1.out hgne1), cell_later TX (set_far P2.out hgne2), froz_later TX (set_far_f P2F.out hgne2) (by simp; omega), cell_later TX (set_far P3.out hgne), ?_, ?_⟩
          · exact (HB.out v).trans (TX.mono (by simp; omega))
          · have := TX.size
            simp at this
            omega)
        rcases letters HP.out hlt with h4 | h4 | h4 | h4
        · have n1 : ((s[k].toNat : Int) == 100) = false := beq_f (by omega)
          have n2 : ((s[k].toNat : Int) == 109) = true := beq_t (by omega)
          have n3 : ((s[k].toNat : Int) == 110) = false := beq_f (by omega)
          have hkn : keyN (s[k].toNat : Int) = true := by rw [h4]; rfl
          obtain ⟨q, hqq⟩ : ∃ q, q = keysTo s k := ⟨_, rfl⟩
          have hq : q < t.size := by rw [HL.out, hqq]; exact keysTo_lt hlt hkn
          have hq20 : q ≤ 20 := by have := keysTo_le s k; have := HK.out; omega
          have HAK := Lib.hid (at_key (xs := xs) hqq hlt (.inl h4) hq)
          have HH := Lib.hid h4
          have HKS := Lib.hid (show keysTo s (k + 1) = q + 1 by rw [keysTo_yes hlt hkn, hqq])
          rw [← hqq]
          have i2 : (q : Int) < (t.size : Int) := by omega
          have HE := Lib.hid (show (Value.int .i64 ((q : Int) + 1)) = .int .i64 (keysTo s (k + 1) : Nat) by rw [HKS.out]; rfl)
          clear hqq h4 hkn
          rcases Bool.eq_false_or_eq_true (chB t[q]) with hch | hch
          · have HCO := Lib.hid (show ∀ w : World, Calls Tryz.prog 47 #[.int .u8 (t[q].toNat : Int)] w fun e w' => e = .returned (.int .i64 (codeV t[q].toNat)) ∧ w = w' from fun w => codeOf_z t[q] _ w rfl hch)
            obtain ⟨v, hv⟩ : ∃ v, v = codeV t[q].toNat := ⟨_, rfl⟩
            rw [← hv] at HCO
            have HV := Lib.hid (show pchAt s xs t k = v by rw [hv]; exact HAK.out.2.2)
            have HCH := Lib.hid hch
            clear hv
            go_wp2_with fail
            refine (isCharacter_any t[q] _).mono ?_
            rw [HCH.out]
            rintro e w4 ⟨rfl, rfl⟩
            clear hch
            have HZ := Lib.hid (show chkAt s t k = 0 by rw [HAK.out.2.1, if_pos HCH.out, if_neg (by rw [HH.out]; simp)])
            go_wp2_with fail
            go_region_held3 (fun w' => w'.cell? ⟨w2.heap.size, 0, none⟩ = some (.slice (some ⟨g, 0, none⟩) s.size s.size)) (first | exact p3 | go_keep)
              (first
                | (go_at_call 47; refine (HCO.out _).mono ?_; rintro e w5 ⟨rfl, rfl⟩))
            all_goals
              go_wp2
              go_roundw
              case rel =>
                have P : ∀ wt, (wt = wo.setCell ⟨g, k, none⟩ (.int .i64 v) ∨ wt = (wo.setCell ⟨g, k, none⟩ (.int .i64 v)).drew) → PnR s t xs A c g w2.heap.size w W wt (.int .i64 ((q : Int) + 1)) (.int .i64 ((k : Int) + 1)) := fun wt hwt => HREL.out v wt _ HV.out HZ.out HE.out hwt
                first | exact P _ (.inl rfl) | exact P _ (.inr rfl) | exact ⟨_, P _ (.inr rfl), rfl⟩ | exact ⟨_, _, P _ (.inr rfl), rfl, rfl⟩
              case measure => (simp [intOf]; try omega)
          · have HZ := Lib.hid (show chkC s t = 7 from chk_some HL.out hlt HNO.out (by rw [HAK.out.2.1, if_neg (by rw [hch]; simp)]) (by omega))
            have HR1 := Lib.hid (pchR_1 (xs := xs) (show ¬ chkC s t = 0 by rw [HZ.out]; omega))
            have HCH := Lib.hid hch
            clear hch
            go_wp2_with fail
            refine (isCharacter_any t[q] _).mono ?_
            rw [HCH.out]
            rintro e w4 ⟨rfl, rfl⟩
            go_wp2
            refine bodyPost_ret (v := .tuple #[.agg #[.slice none 0 0], .int .i64 7]) (by simp [results, Tryz.results32, go_sem, *]) rfl ?_
            rw [HZ.out, HR1.out]
            exact ⟨none, 0, rfl, World.ownsRow_nil _ _ _ _, bset (bs T0 hbw) _ _ _ (by omega)⟩
        · have n1 : ((s[k].toNat : Int) == 100) = false := beq_f (by omega)
          have n2 : ((s[k].toNat : Int) == 109) = false := beq_f (by omega)
          have n3 : ((s[k].toNat : Int) == 110) = true := beq_t (by omega)
          have hkn : keyN (s[k].toNat : Int) = true := by rw [h4]; rfl
          obtain ⟨q, hqq⟩ : ∃ q, q = keysTo s k := ⟨_, rfl⟩
          have hq : q < t.size := by rw [HL.out, hqq]; exact keysTo_lt hlt hkn
          have hq20 : q ≤ 20 := by have := keysTo_le s k; have := HK.out; omega
          have HAK := Lib.hid (at_key (xs := xs) hqq hlt (.inr h4) hq)
          have HH := Lib.hid h4
          have HKS := Lib.hid (show keysTo s (k + 1) = q + 1 by rw [keysTo_yes hlt hkn, hqq])
          rw [← hqq]
          have i2 : (q : Int) < (t.size : Int) := by omega
          have HE := Lib.hid (show (Value.int .i64 ((q : Int) + 1)) = .int .i64 (keysTo s (k + 1) : Nat) by rw [HKS.out]; rfl)
          clear hqq h4 hkn
          rcases Bool.eq_false_or_eq_true (chB t[q]) with hch | hch
          · have HCO := Lib.hid (show ∀ w : World, Calls Tryz.prog 47 #[.int .u8 (t[q].toNat : Int)] w fun e w' => e = .returned (.int .i64 (codeV t[q].toNat)) ∧ w = w' from fun w => codeOf_z t[q] _ w rfl hch)
            obtain ⟨v, hv⟩ : ∃ v, v = codeV t[q].toNat := ⟨_, rfl⟩
            rw [← hv] at HCO
            have HV := Lib.hid (show pchAt s xs t k = v by rw [hv]; exact HAK.out.2.2)
            have HCH := Lib.hid hch
            clear hv
            go_wp2_with fail
            refine (isCharacter_any t[q] _).mono ?_
            rw [HCH.out]
            rintro e w4 ⟨rfl, rfl⟩
            clear hch
            rcases Bool.eq_false_or_eq_true (digB (t[q].toNat : Int)) with hdg | hdg
            · have HZ := Lib.hid (show chkAt s t k = 0 by rw [HAK.out.2.1, if_pos HCH.out, if_neg (by rw [hdg]; simp)])
              have HDG := Lib.hid hdg
              clear hdg
              go_wp2_with fail
              refine (isDigit_any (t[q].toNat : Int) _).mono ?_
              rw [HDG.out]
              rintro e w4 ⟨rfl, rfl⟩
              go_wp2_with fail
              go_region_held3 (fun w' => w'.cell? ⟨w2.heap.size, 0, none⟩ = some (.slice (some ⟨g, 0, none⟩) s.size s.size)) (first | exact p3 | go_keep)
                (first
                  | (go_at_call 47; refine (HCO.out _).mono ?_; rintro e w5 ⟨rfl, rfl⟩))
              all_goals
                go_wp2
                go_roundw
                case rel =>
                  have P : ∀ wt, (wt = wo.setCell ⟨g, k, none⟩ (.int .i64 v) ∨ wt = (wo.setCell ⟨g, k, none⟩ (.int .i64 v)).drew) → PnR s t xs A c g w2.heap.size w W wt (.int .i64 ((q : Int) + 1)) (.int .i64 ((k : Int) + 1)) := fun wt hwt => HREL.out v wt _ HV.out HZ.out HE.out hwt
                  first | exact P _ (.inl rfl) | exact P _ (.inr rfl) | exact ⟨_, P _ (.inr rfl), rfl⟩ | exact ⟨_, _, P _ (.inr rfl), rfl, rfl⟩
                case measure => (simp [intOf]; try omega)
            · have HZ := Lib.hid (show chkC s t = 10 from chk_some HL.out hlt HNO.out (by rw [HAK.out.2.1, if_pos HCH.out, if_pos ⟨HH.out, hdg⟩]) (by omega))
              have HR1 := Lib.hid (pchR_1 (xs := xs) (show ¬ chkC s t = 0 by rw [HZ.out]; omega))
              have HDG := Lib.hid hdg
              clear hdg
              go_wp2_with fail
              refine (isDigit_any (t[q].toNat : Int) _).mono ?_
              rw [HDG.out]
              rintro e w4 ⟨rfl, rfl⟩
              go_wp2
              refine bodyPost_ret (v := .tuple #[.agg #[.slice none 0 0], .int .i64 10]) (by simp [results, Tryz.results32, go_sem, *]) rfl ?_
              rw [HZ.out, HR1.out]
              exact ⟨none, 0, rfl, World.ownsRow_nil _ _ _ _, bset (bs T0 hbw) _ _ _ (by omega)⟩
          · have HZ := Lib.hid (show chkC s t = 7 from chk_some HL.out hlt HNO.out (by rw [HAK.out.2.1, if_neg (by rw [hch]; simp)]) (by omega))
            have HR1 := Lib.hid (pchR_1 (xs := xs) (show ¬ chkC s t = 0 by rw [HZ.out]; omega))
            have HCH := Lib.hid hch
            clear hch
            go_wp2_with fail
            refine (isCharacter_any t[q] _).mono ?_
            rw [HCH.out]
            rintro e w4 ⟨rfl, rfl⟩
            go_wp2
            refine bodyPost_ret (v := .tuple #[.agg #[.slice none 0 0], .int .i64 7]) (by simp [results, Tryz.results32, go_sem, *]) rfl ?_
            rw [HZ.out, HR1.out]
            exact ⟨none, 0, rfl, World.ownsRow_nil _ _ _ _, bset (bs T0 hbw) _ _ _ (by omega)⟩
        · have n1 : ((s[k].toNat : Int) == 100) = false := beq_f (by omega)
          have n2 : ((s[k].toNat : Int) == 109) = false := beq_f (by omega)
          have n3 : ((s[k].toNat : Int) == 110) = false := beq_f (by omega)
          obtain ⟨hkn, hz1, hz2⟩ := at_skip (t := t) (xs := xs) hlt h4
          have HKS := Lib.hid (keysTo_no hlt hkn)
          have HN2 := Lib.hid (HNO.out.succ hz1)
          have HPS := Lib.hid (pchTo_stay hlt hz2)
          clear h4 hz1 hz2 hkn
          go_wp2
          go_roundw
          case rel =>
            have P : PnR s t xs A c g w2.heap.size w W wo (.int .i64 (keysTo s k : Nat)) (.int .i64 ((k : Int) + 1)) := ⟨k + 1, by omega, by go_num, by rw [HKS.out], HN2.out, by rw [← HPS.out]; exact hown, p1, p2, p2f, p3, hbw, hz7⟩
            first | exact P | exact ⟨_, P, rfl⟩ | exact ⟨_, _, P, rfl, rfl⟩ | exact ⟨_, _, _, P, rfl, rfl, rfl⟩ | exact ⟨_, _, _, _, P, rfl, rfl, rfl, rfl⟩ | exact ⟨_, _, _, _, _, P, rfl, rfl, rfl, rfl, rfl⟩ | exact ⟨_, _, _, _, _, _, P, rfl, rfl, rfl, rfl, rfl, rfl⟩ | exact ⟨_, _, _, _, _, _, _, P, rfl, rfl, rfl, rfl, rfl, rfl, rfl⟩ | exact ⟨_, _, _, _, _, _, _, _, P, rfl, rfl, rfl, rfl, rfl, rfl, rfl, rfl⟩
          case measure => (simp [intOf]; try omega)
        · have n1 : ((s[k].toNat : Int) == 100) = true := beq_t (by omega)
          obtain ⟨hkn, hz1, hz2⟩ := at_dup (t := t) (xs := xs) hlt HX.out h4
          have hkx : k < xs.length := by rw [HX.out]; exact hlt
          obtain ⟨bz, oz, hA, hbz, hcz⟩ := (ra.up hbw).at_ hlt
          subst hA
          have d1 := hcz k _ (ints_get xs k hkx)
          obtain ⟨v, hv⟩ : ∃ v, v = xs[k] := ⟨_, rfl⟩
          rw [← hv] at d1 hz2
          have HKS := Lib.hid (keysTo_no hlt hkn)
          have HZ1 := Lib.hid hz1
          have HV := Lib.hid hz2
          clear h4 hz1 hz2 hkn hcz hv
          go_wp2
          go_region
          all_goals
            go_wp2
            go_roundw
            case rel =>
              have P : ∀ wt, (wt = wo.setCell ⟨g, k, none⟩ (.int .i64 v) ∨ wt = (wo.setCell ⟨g, k, none⟩ (.int .i64 v)).drew) → PnR s t xs (some ⟨bz, oz, none⟩) c g w2.heap.size w W wt (.int .i64 (keysTo s k : Nat)) (.int .i64 ((k : Int) + 1)) := fun wt hwt => HREL.out v wt _ HV.out HZ1.out (by rw [HKS.out]) hwt
              first | exact P _ (.inl rfl) | exact P _ (.inr rfl) | exact ⟨_, P _ (.inr rfl), rfl⟩ | exact ⟨_, _, P _ (.inr rfl), rfl, rfl⟩
            case measure => (simp [intOf]; try omega)
      · obtain rfl : k = s.size := by omega
        have HZ := Lib.hid (chk_none HL.out HNO.out)
        have HR0 := Lib.hid (pchR_0 (xs := xs) HZ.out)
        have HRL := Lib.hid (pchL_length s xs t)
        have hown2 := hown
        rw [pchTo_all] at hown2
        clear hown
        go_wp2
        refine bodyPost_ret (v := .tuple #[.agg #[.slice (some ⟨g, 0, none⟩) s.size s.size], .int .i64 0]) (by simp [results, Tryz.results32, go_sem, *]) rfl ?_
        rw [HZ.out, HR0.out, HRL.out]
        exact ⟨_, _, rfl, own_base (own_below hown2 _ _ _ (by omega)) (by omega), bset (bs T0 hbw) _ _ _ (by omega)⟩
  · have i1 : ((t.size : Int) != (K : Int)) = true := bne_t (by omega)
    have HZ := Lib.hid (show chkC s t = 5 from chk_len (by have := HK.out; omega))
    have HR1 := Lib.hid (pchR_1 (xs := xs) (show ¬ chkC s t = 0 by rw [HZ.out]; omega))
    go_wp2
    refine bodyPost_ret (v := .tuple #[.agg #[.slice none 0 0], .int .i64 5]) (by simp [results, Tryz.results32, go_sem, *]) rfl ?_
    rw [HZ.out, HR1.out]
    exact ⟨none, 0, rfl, World.ownsRow_nil _ _ _ _, bset T0 _ _ _ (by omega)⟩
end Go.Proofs.YtkmejkeanmjfbaaGreatDoor

/-! ### The code of keys and the card that is punched, in the reference; the first column that differs, in both. -/
namespace Go.Proofs.YtkmejkeanmjfbaaGreatDoor
open Go.RowKit

theorem chk_plain {s t : ByteArray} {k : Nat} (hk : k < s.size) (h : keyN (s[k].toNat : Int) = false) : chkAt s t k = 0 := by unfold chkAt; rw [byC_at hk, h]; rfl
set_option maxHeartbeats 4000000 in
theorem l05Check_any (s t : ByteArray) (w : World) (hp : progB s = true) (ht : t.size ≤ 1048576) :
    Calls Tryz.prog 34 #[.string s, .string t] w fun e w' => e = .returned (.int .i64 (chkC s t)) ∧ w = w' := by
  obtain ⟨hs1, hs20⟩ := progB_len hp
  have HP := Lib.hid hp
  obtain ⟨K, hK⟩ : ∃ K, K = keysN s := ⟨_, rfl⟩
  have hK20 : K ≤ 20 := by have := keysN_le s; omega
  have HK := Lib.hid hK
  clear hp hK
  go_enter Tryz.func34, Tryz.ntmps34
  go_wp2_with fail
  refine (l05Keys_any s _ (by omega)).mono ?_
  rw [← HK.out]
  rintro e w1 ⟨rfl, rfl⟩
  by_cases hl : t.size = K
  · have i1 : ((t.size : Int) != (K : Int)) = false := bne_f (by omega)
    have HL := Lib.hid (show t.size = keysN s by rw [hl, HK.out])
    clear hl
    go_wp2
    go_loop [5, 6, 7] (fun q5 q _ => ∃ k : Nat, k ≤ s.size ∧ q = .int .i64 k ∧ q5 = .int .i64 (keysTo s k : Nat) ∧ NoChk s t k) (fun _ q _ => s.size - (intOf q).toNat)
    case atStart => exact ⟨0, Nat.zero_le _, rfl, rfl, NoChk.zero _ _⟩
    case round =>
      obtain ⟨k, hk, rfl, rfl, hno⟩ := hrel
      have HNO := Lib.hid hno
      clear hno i1
      by_cases hlt : k < s.size
      · have i1 : (k : Int) < (s.size : Int) := by omega
        rcases Bool.eq_false_or_eq_true (keyN (s[k].toNat : Int)) with hkn | hkn
        · have hq20 : keysTo s k ≤ 20 := by have := keysTo_le s k; have := HK.out; omega
          obtain ⟨q, hqq⟩ : ∃ q, q = keysTo s k := ⟨_, rfl⟩
          have hq : q < t.size := by rw [HL.out, hqq]; exact keysTo_lt hlt hkn
          rw [← hqq] at hq20
          have hh : (s[k].toNat : Int) = 109 ∨ (s[k].toNat : Int) = 110 := by simpa [keyN] using hkn
          have HAK := Lib.hid (at_key (xs := []) hqq hlt hh hq)
          have HH := Lib.hid hh
          have HKS := Lib.hid (show keysTo s (k + 1) = q + 1 by rw [keysTo_yes hlt hkn, hqq])
          rw [← hqq]
          have i2 : (q : Int) < (t.size : Int) := by omega
          have HE := Lib.hid (show (Value.int .i64 ((q : Int) + 1)) = .int .i64 (keysTo s (k + 1) : Nat) by rw [HKS.out]; rfl)
          have HKN := Lib.hid hkn
          clear hqq hkn hh
          go_wp2_with fail
          refine (l05Keyed_any (s[k].toNat : Int) _).mono ?_
          rw [HKN.out]
          rintro e w4 ⟨rfl, rfl⟩
          obtain ⟨v, hv⟩ : ∃ v, v = codeV t[q].toNat := ⟨_, rfl⟩
          have HV := Lib.hid hv
          go_wp2_with fail
          refine (l03Code_any t[q].toNat (Nat.le_of_lt_succ (UInt8.toNat_lt _)) _).mono ?_
          rw [← HV.out]
          rintro e w4 ⟨rfl, rfl⟩
          clear hv
          by_cases hv0 : v < 0
          · have HZ := Lib.hid (show chkC s t = 7 from chk_some HL.out hlt HNO.out (by rw [HAK.out.2.1, if_neg (by unfold chB; rw [← HV.out]; simp; omega)]) (by omega))
            go_wp2
            go_ret
            exact ⟨ret_int HZ.out.symm, rfl⟩
          · have HCH := Lib.hid (show chB t[q] = true by unfold chB; rw [← HV.out]; simp; omega)
            rcases HH.out with h4 | h4
            · have n1 : ((s[k].toNat : Int) == 110) = false := beq_f (by omega)
              have HZ := Lib.hid (show chkAt s t k = 0 by rw [HAK.out.2.1, if_pos HCH.out, if_neg (by rw [h4]; simp)])
              have HN2 := Lib.hid (HNO.out.succ HZ.out)
              clear h4
              go_wp2
              go_round
              case rel =>
                have P : ∃ k' : Nat, k' ≤ s.size ∧ (Value.int .i64 ((k : Int) + 1)) = .int .i64 k' ∧ (Value.int .i64 ((q : Int) + 1)) = .int .i64 (keysTo s k' : Nat) ∧ NoChk s t k' := ⟨k + 1, by omega, by go_num, HE.out, HN2.out⟩
                first | exact P | exact ⟨_, P, rfl⟩ | exact ⟨_, _, P, rfl, rfl⟩ | exact ⟨_, _, _, P, rfl, rfl, rfl⟩ | exact ⟨_, _, _, _, P, rfl, rfl, rfl, rfl⟩ | exact ⟨_, _, _, _, _, P, rfl, rfl, rfl, rfl, rfl⟩ | exact ⟨_, _, _, _, _, _, P, rfl, rfl, rfl, rfl, rfl, rfl⟩ | exact ⟨_, _, _, _, _, _, _, P, rfl, rfl, rfl, rfl, rfl, rfl, rfl⟩ | exact ⟨_, _, _, _, _, _, _, _, P, rfl, rfl, rfl, rfl, rfl, rfl, rfl, rfl⟩
              case measure => (simp [intOf]; try omega)
            · have n1 : ((s[k].toNat : Int) == 110) = true := beq_t (by omega)
              rcases Bool.eq_false_or_eq_true (digB (t[q].toNat : Int)) with hdg | hdg
              · have HZ := Lib.hid (show chkAt s t k = 0 by rw [HAK.out.2.1, if_pos HCH.out, if_neg (by rw [hdg]; simp)])
                have HN2 := Lib.hid (HNO.out.succ HZ.out)
                have HDG := Lib.hid hdg
                clear hdg h4
                go_wp2_with fail
                refine (l01Digit_any (t[q].toNat : Int) _).mono ?_
                rw [HDG.out]
                rintro e w4 ⟨rfl, rfl⟩
                go_wp2
                go_round
                case rel =>
                  have P : ∃ k' : Nat, k' ≤ s.size ∧ (Value.int .i64 ((k : Int) + 1)) = .int .i64 k' ∧ (Value.int .i64 ((q : Int) + 1)) = .int .i64 (keysTo s k' : Nat) ∧ NoChk s t k' := ⟨k + 1, by omega, by go_num, HE.out, HN2.out⟩
                  first | exact P | exact ⟨_, P, rfl⟩ | exact ⟨_, _, P, rfl, rfl⟩ | exact ⟨_, _, _, P, rfl, rfl, rfl⟩ | exact ⟨_, _, _, _, P, rfl, rfl, rfl, rfl⟩ | exact ⟨_, _, _, _, _, P, rfl, rfl, rfl, rfl, rfl⟩ | exact ⟨_, _, _, _, _, _, P, rfl, rfl, rfl, rfl, rfl, rfl⟩ | exact ⟨_, _, _, _, _, _, _, P, rfl, rfl, rfl, rfl, rfl, rfl, rfl⟩ | exact ⟨_, _, _, _, _, _, _, _, P, rfl, rfl, rfl, rfl, rfl, rfl, rfl, rfl⟩
                case measure => (simp [intOf]; try omega)
              · have HZ := Lib.hid (show chkC s t = 10 from chk_some HL.out hlt HNO.out (by rw [HAK.out.2.1, if_pos HCH.out, if_pos ⟨h4, hdg⟩]) (by omega))
                have HDG := Lib.hid hdg
                clear hdg h4
                go_wp2_with fail
                refine (l01Digit_any (t[q].toNat : Int) _).mono ?_
                rw [HDG.out]
                rintro e w4 ⟨rfl, rfl⟩
                go_wp2
                go_ret
                exact ⟨ret_int HZ.out.symm, rfl⟩
        · have HN2 := Lib.hid (HNO.out.succ (chk_plain hlt hkn))
          have HKS := Lib.hid (keysTo_no hlt hkn)
          have HKN := Lib.hid hkn
          clear hkn
          go_wp2_with fail
          refine (l05Keyed_any (s[k].toNat : Int) _).mono ?_
          rw [HKN.out]
          rintro e w4 ⟨rfl, rfl⟩
          go_wp2
          go_round
          case rel =>
            have P : ∃ k' : Nat, k' ≤ s.size ∧ (Value.int .i64 ((k : Int) + 1)) = .int .i64 k' ∧ (Value.int .i64 (keysTo s k : Nat)) = .int .i64 (keysTo s k' : Nat) ∧ NoChk s t k' := ⟨k + 1, by omega, by go_num, by rw [HKS.out], HN2.out⟩
            first | exact P | exact ⟨_, P, rfl⟩ | exact ⟨_, _, P, rfl, rfl⟩ | exact ⟨_, _, _, P, rfl, rfl, rfl⟩ | exact ⟨_, _, _, _, P, rfl, rfl, rfl, rfl⟩ | exact ⟨_, _, _, _, _, P, rfl, rfl, rfl, rfl, rfl⟩ | exact ⟨_, _, _, _, _, _, P, rfl, rfl, rfl, rfl, rfl, rfl⟩ | exact ⟨_, _, _, _, _, _, _, P, rfl, rfl, rfl, rfl, rfl, rfl, rfl⟩ | exact ⟨_, _, _, _, _, _, _, _, P, rfl, rfl, rfl, rfl, rfl, rfl, rfl, rfl⟩
          case measure => (simp [intOf]; try omega)
      · obtain rfl : k = s.size := by omega
        have HZ := Lib.hid (chk_none HL.out HNO.out)
        go_wp2
        go_ret
        exact ⟨ret_int HZ.out.symm, rfl⟩
  · have i1 : ((t.size : Int) != (K : Int)) = true := bne_t (by omega)
    have HZ := Lib.hid (show chkC s t = 5 from chk_len (by have := HK.out; omega))
    go_wp2
    go_ret
    exact ⟨ret_int HZ.out.symm, rfl⟩

/-- Behind k columns. -/
def PsR (s t : ByteArray) (xs : List Int) (b7 : Nat) (w wr : World) (q8 q : Value) : Prop := ∃ k : Nat, k ≤ s.size ∧ q = .int .i64 k ∧ q8 = .int .i64 (keysTo s k : Nat) ∧
  wr.ownsRow (w.heap.size + 1) 2 1 (.slice (some ⟨w.heap.size + 1, 0, none⟩) s.size s.size) s.size (ints (pchTo s xs t k)) ∧
  Below (w.heap.size + 1) (w.alloc (.cells #[.slice none 0 0] 26)) wr ∧ wr.cell? ⟨b7, 0, none⟩ = some (.slice (some ⟨w.heap.size + 1, 0, none⟩) s.size s.size) ∧ b7 < wr.heap.size
set_option maxRecDepth 100000 in
set_option maxHeartbeats 8000000 in
theorem l05Punch_any (s t : ByteArray) (p o : Nat) (A : Option Addr) (c : Nat) (xs : List Int) (w : World) (hp : progB s = true) (hx : xs.length = s.size) (hc : w.cell? ⟨p, o, none⟩ = some (.slice A s.size c)) (ha : Rd w w.heap.size 1 A s.size (ints xs)) (hz : t.size = keysN s) :
    Calls Tryz.prog 35 #[.string s, .pointer (some ⟨p, o, none⟩), .string t] w fun e w' => ∃ B d, e = .returned (.agg #[.slice B s.size d]) ∧
      w'.ownsRow w.heap.size 2 1 (.slice B s.size d) s.size (ints (pchL s xs t)) ∧ Below w.heap.size w w' := by
  obtain ⟨i0, hi, hz0, hz1, hz2⟩ := info_parts info_i64
  obtain ⟨hs1, hs20⟩ := progB_len hp
  have hplt := World.block_lt_of_cell? _ _ hc
  simp only at hplt
  have hpa : (w.alloc (.cells #[.slice none 0 0] 26)).cell? ⟨p, o, none⟩ = some (.slice A s.size c) := by rw [World.cell?_alloc_lt _ _ _ (by exact hplt), hc]
  have HP := Lib.hid hp
  have HX := Lib.hid hx
  have HL := Lib.hid hz
  have hK20 := keysN_le s
  clear hp hx hz hc
  go_enter Tryz.func35, Tryz.ntmps35
  go_wp2_with (at_make; refine wpList_make_full _ rfl _ _ 24 rfl (w.heap.size + 1) 2 i0 (.int .i64 0) 1 Tryz.underlying24 hi hz0 hz1 _ _ _ _ s.size rfl rfl rfl rfl (by rw [hz2]; omega) (by unfold maxLen; omega) (by simp) ?_; intro w1 hown1 hgrow1; have k2 : w1.cell? ⟨w.heap.size, 0, none⟩ = some (.slice none 0 0) := hgrow1.cell (a := ⟨w.heap.size, 0, none⟩) (by simp) (by simp); have f2 : w1.frozen? ⟨w.heap.size, 0, none⟩ = false := (hgrow1.frozen_far ⟨w.heap.size, 0, none⟩ (by simp) (by simp)).trans (by simp))
  rw [zeros_ints] at hown1
  simp only [World.size_alloc] at hown1
  have hglt : w.heap.size + 1 < w1.heap.size := own_heap hown1
  have T1 : Below (w.heap.size + 1) (w.alloc (.cells #[.slice none 0 0] 26)) w1 := (Below.refl _ _).grown hgrow1 (by simp) (by simp)
  have ha1 := ha.alloc (Nat.le_refl _) (.cells #[.slice none 0 0] 26)
  have HO1 := Lib.hid hown1
  have hng3 : ¬ w.heap.size + 1 = w1.heap.size := by omega
  go_loopw [8, 9] (fun q8 q wr => PsR s t xs w1.heap.size w wr q8 q) (fun _ q _ => s.size - (intOf q).toNat)
  case atStart => exact ⟨0, Nat.zero_le _, rfl, rfl, by rw [pchTo_zero]; exact hown1.alloc _, T1.alloc (by omega) _, by simp, by simp⟩
  case round =>
    obtain ⟨wo, rfl⟩ : ∃ wo : World, wo = wr := ⟨_, rfl⟩
    obtain ⟨k, hk, rfl, rfl, hown, hbw, p3, hz7⟩ := hrel
    clear hown1 k2 f2
    have hsz := hbw.size
    simp only [World.size_alloc] at hsz
    have kp := (hbw.cell (p := ⟨p, o, none⟩) (by simp only; omega)).trans hpa
    have k2 := (hbw.cell (p := ⟨w.heap.size, 0, none⟩) (by simp)).trans (show (w.alloc (.cells #[.slice none 0 0] 26)).cell? ⟨w.heap.size, 0, none⟩ = some (.slice none 0 0) by simp)
    have f2 := (hbw.frozen (p := ⟨w.heap.size, 0, none⟩) (by simp)).trans (show (w.alloc (.cells #[.slice none 0 0] 26)).frozen? ⟨w.heap.size, 0, none⟩ = false by simp)
    by_cases hlt : k < s.size
    · have hkl : k < (ints (pchTo s xs t k)).length := by rw [ints_length, pchTo_length (by omega)]; exact hlt
      have c6 := own_cell hown k hkl
      have c7 := hown.frozenAt k
      have i1 : (k : Int) < (s.size : Int) := by omega
      have P3 := Lib.hid p3
      have HREL := Lib.hid (show ∀ (v : Int) (wt : World) (q8 : Value), pchAt s xs t k = v → q8 = .int .i64 (keysTo s (k + 1) : Nat) → (wt = wo.setCell ⟨w.heap.size + 1, k, none⟩ (.int .i64 v) ∨ wt = (wo.setCell ⟨w.heap.size + 1, k, none⟩ (.int .i64 v)).drew) → PsR s t xs w1.heap.size w wt q8 (.int .i64 ((k : Int) + 1)) from fun v wt q8 hv hq hw => by
        have TX : Below (wo.setCell ⟨w.heap.size + 1, k, none⟩ (.int .i64 v)).heap.size (wo.setCell ⟨w.heap.size + 1, k, none⟩ (.int .i64 v)) wt := by
          rcases hw with rfl | rfl
          · exact b0 _
          · exact (b0 _).drew
        have HS : (wo.setCell ⟨w.heap.size + 1, k, none⟩ (.int .i64 v)).ownsRow (w.heap.size + 1) 2 1 (.slice (some ⟨w.heap.size + 1, 0, none⟩) s.size s.size) s.size (ints (pchTo s xs t (k + 1))) := by
          rw [← pchTo_set hlt hv, ints_set]
          exact ownsRow_set hown k _
        refine ⟨k + 1, by omega, by go_num, hq, own_bs HS TX, (bset hbw _ _ _ (Nat.le_refl _)).trans (TX.mono (by simp; omega)), cell_later TX (set_far P3.out hng3), ?_⟩
        have := TX.size
        simp at this
        omega)
      rcases Bool.eq_false_or_eq_true (keyN (s[k].toNat : Int)) with hkn | hkn
      · have hq20 : keysTo s k ≤ 20 := by have := keysTo_le s k; omega
        obtain ⟨q, hqq⟩ : ∃ q, q = keysTo s k := ⟨_, rfl⟩
        have hq : q < t.size := by rw [HL.out, hqq]; exact keysTo_lt hlt hkn
        rw [← hqq] at hq20
        have hh : (s[k].toNat : Int) = 109 ∨ (s[k].toNat : Int) = 110 := by simpa [keyN] using hkn
        have HAK := Lib.hid (at_key (xs := xs) hqq hlt hh hq)
        have HKS := Lib.hid (show keysTo s (k + 1) = q + 1 by rw [keysTo_yes hlt hkn, hqq])
        rw [← hqq]
        have i2 : (q : Int) < (t.size : Int) := by omega
        have HE := Lib.hid (show (Value.int .i64 ((q : Int) + 1)) = .int .i64 (keysTo s (k + 1) : Nat) by rw [HKS.out]; rfl)
        have HKN := Lib.hid hkn
        have HCO := Lib.hid (show ∀ w : World, Calls Tryz.prog 50 #[.int .u8 (t[q].toNat : Int)] w fun e w' => e = .returned (.int .i64 (codeV t[q].toNat)) ∧ w = w' from fun w => l03Code_any t[q].toNat (Nat.le_of_lt_succ (UInt8.toNat_lt _)) w)
        obtain ⟨v, hv⟩ : ∃ v, v = codeV t[q].toNat := ⟨_, rfl⟩
        rw [← hv] at HCO
        have HV := Lib.hid (show pchAt s xs t k = v by rw [hv]; exact HAK.out.2.2)
        clear hqq hkn hh hv HAK
        go_wp2_with fail
        refine (l05Keyed_any (s[k].toNat : Int) _).mono ?_
        rw [HKN.out]
        rintro e w4 ⟨rfl, rfl⟩
        go_wp2_with fail
        go_region_held3 (fun w' => w'.cell? ⟨w1.heap.size, 0, none⟩ = some (.slice (some ⟨w.heap.size + 1, 0, none⟩) s.size s.size)) (first | exact p3 | go_keep)
          (first
            | (go_at_call 50; refine (HCO.out _).mono ?_; rintro e w5 ⟨rfl, rfl⟩))
        all_goals
          go_wp2
          go_roundw
          case rel =>
            have P : ∀ wt, (wt = wo.setCell ⟨w.heap.size + 1, k, none⟩ (.int .i64 v) ∨ wt = (wo.setCell ⟨w.heap.size + 1, k, none⟩ (.int .i64 v)).drew) → PsR s t xs w1.heap.size w wt (.int .i64 ((q : Int) + 1)) (.int .i64 ((k : Int) + 1)) := fun wt hwt => HREL.out v wt _ HV.out HE.out hwt
            first | exact P _ (.inl rfl) | exact P _ (.inr rfl) | exact ⟨_, P _ (.inr rfl), rfl⟩ | exact ⟨_, _, P _ (.inr rfl), rfl, rfl⟩
          case measure => (simp [intOf]; try omega)
      · have HKS := Lib.hid (keysTo_no hlt hkn)
        have HKN := Lib.hid hkn
        by_cases h4 : (s[k].toNat : Int) = 100
        · have n1 : ((s[k].toNat : Int) == 100) = true := beq_t h4
          obtain ⟨_, _, hz2⟩ := at_dup (t := t) (xs := xs) hlt HX.out h4
          have hkx : k < xs.length := by rw [HX.out]; exact hlt
          obtain ⟨bz, oz, hA, hbz, hcz⟩ := (ha1.below (hbw.mono (by omega))).at_ hlt
          subst hA
          have d1 := hcz k _ (ints_get xs k hkx)
          obtain ⟨v, hv⟩ : ∃ v, v = xs[k] := ⟨_, rfl⟩
          rw [← hv] at d1 hz2
          have HV := Lib.hid hz2
          clear h4 hz2 hkn hcz hv
          go_wp2_with fail
          refine (l05Keyed_any (s[k].toNat : Int) _).mono ?_
          rw [HKN.out]
          rintro e w4 ⟨rfl, rfl⟩
          go_wp2
          go_region
          all_goals
            go_wp2
            go_roundw
            case rel =>
              have P : ∀ wt, (wt = wo.setCell ⟨w.heap.size + 1, k, none⟩ (.int .i64 v) ∨ wt = (wo.setCell ⟨w.heap.size + 1, k, none⟩ (.int .i64 v)).drew) → PsR s t xs w1.heap.size w wt (.int .i64 (keysTo s k : Nat)) (.int .i64 ((k : Int) + 1)) := fun wt hwt => HREL.out v wt _ HV.out (by rw [HKS.out]) hwt
              first | exact P _ (.inl rfl) | exact P _ (.inr rfl) | exact ⟨_, P _ (.inr rfl), rfl⟩ | exact ⟨_, _, P _ (.inr rfl), rfl, rfl⟩
            case measure => (simp [intOf]; try omega)
        · have n1 : ((s[k].toNat : Int) == 100) = false := beq_f h4
          have HPS := Lib.hid (pchTo_stay (s := s) (xs := xs) (t := t) hlt (show pchAt s xs t k = 0 by unfold pchAt; rw [byC_at hlt, hkn, if_neg (by simp), if_neg h4]))
          clear h4 hkn
          go_wp2_with fail
          refine (l05Keyed_any (s[k].toNat : Int) _).mono ?_
          rw [HKN.out]
          rintro e w4 ⟨rfl, rfl⟩
          go_wp2
          go_roundw
          case rel =>
            have P : PsR s t xs w1.heap.size w wo (.int .i64 (keysTo s k : Nat)) (.int .i64 ((k : Int) + 1)) := ⟨k + 1, by omega, by go_num, by rw [HKS.out], by rw [← HPS.out]; exact hown, hbw, p3, hz7⟩
            first | exact P | exact ⟨_, P, rfl⟩ | exact ⟨_, _, P, rfl, rfl⟩ | exact ⟨_, _, _, P, rfl, rfl, rfl⟩ | exact ⟨_, _, _, _, P, rfl, rfl, rfl, rfl⟩ | exact ⟨_, _, _, _, _, P, rfl, rfl, rfl, rfl, rfl⟩ | exact ⟨_, _, _, _, _, _, P, rfl, rfl, rfl, rfl, rfl, rfl⟩ | exact ⟨_, _, _, _, _, _, _, P, rfl, rfl, rfl, rfl, rfl, rfl, rfl⟩ | exact ⟨_, _, _, _, _, _, _, _, P, rfl, rfl, rfl, rfl, rfl, rfl, rfl, rfl⟩
          case measure => (simp [intOf]; try omega)
    · obtain rfl : k = s.size := by omega
      have hown2 := hown
      rw [pchTo_all] at hown2
      clear hown
      go_wp2
      refine bodyPost_ret (v := .agg #[.slice (some ⟨w.heap.size + 1, 0, none⟩) s.size s.size]) (by simp [results, Tryz.results35, go_sem, *]) rfl ⟨_, _, rfl, ?_, ?_⟩
      · exact own_base (own_below hown2 _ _ _ (by omega)) (by omega)
      · exact bset (bs (ba (b0 w) (.cells #[.slice none 0 0] 26)) (hbw.mono (by simp))) _ _ _ (Nat.le_refl _)
end Go.Proofs.YtkmejkeanmjfbaaGreatDoor

/-! ### The first column that differs, and the code of a program card and cards; in the program and in the reference. -/
namespace Go.Proofs.YtkmejkeanmjfbaaGreatDoor
open Go.RowKit

/-! ### plain -/
def wrgO (L ys : List Int) (i : Nat) : Option Int := if ys.getD i 0 = L.getD i 0 then none else some (i : Int)
def wrgI (L ys : List Int) (n : Nat) : Int := ((List.range n).findSome? (wrgO L ys)).getD (-1)
def NoW (L ys : List Int) (k : Nat) : Prop := ∀ j, j < k → ys.getD j 0 = L.getD j 0
theorem NoW.zero (L ys : List Int) : NoW L ys 0 := fun j h => absurd h (Nat.not_lt_zero j)
theorem NoW.succ {L ys : List Int} {k : Nat} (h : NoW L ys k) (hk : ys.getD k 0 = L.getD k 0) : NoW L ys (k + 1) := by
  intro j hj
  rcases Nat.lt_succ_iff_lt_or_eq.1 hj with hj | rfl
  · exact h j hj
  · exact hk
theorem wrg_some {L ys : List Int} {n k : Nat} (hk : k < n) (h : NoW L ys k) (hne : ¬ ys.getD k 0 = L.getD k 0) : wrgI L ys n = (k : Int) := by
  unfold wrgI
  rw [ff_some hk (fun j hj => by unfold wrgO; rw [if_pos (h j hj)]) (show wrgO L ys k = some (k : Int) by unfold wrgO; rw [if_neg hne])]
  rfl
theorem wrg_none {L ys : List Int} {n : Nat} (h : NoW L ys n) : wrgI L ys n = -1 := by
  unfold wrgI
  have : (List.range n).findSome? (wrgO L ys) = none := by
    rw [List.findSome?_eq_none_iff]
    intro j hj
    unfold wrgO
    rw [if_pos (h j (List.mem_range.1 hj))]
  rw [this]
  rfl
def verV (s : ByteArray) (xs : List Int) (t : ByteArray) (ys : List Int) : Int := if chkC s t = 0 then wrgI (pchL s xs t) ys s.size else 0
theorem ret_vv {a b c d : Int} (h : a = b) (k : c = d) : Ending.returned (.tuple #[.int .i64 a, .int .i64 c]) = .returned (.tuple #[.int .i64 b, .int .i64 d]) := by rw [h, k]
theorem getD_of {xs : List Int} {k : Nat} (h : k < xs.length) : xs.getD k 0 = xs[k] := by simp [List.getD, List.getElem?_eq_getElem h]

set_option maxRecDepth 100000 in
set_option maxHeartbeats 8000000 in
theorem verified_any (s t : ByteArray) (A : Option Addr) (c : Nat) (xs : List Int) (C : Option Addr) (d : Nat) (ys : List Int) (w : World) (hp : progB s = true) (hx : xs.length = s.size) (hy : ys.length = s.size)
    (ha : Rd w w.heap.size 1 A s.size (ints xs)) (hb : Rd w w.heap.size 1 C s.size (ints ys)) (ht : t.size ≤ 1048576) :
    Calls Tryz.prog 38 #[.string s, .agg #[.slice A s.size c], .agg #[.slice C s.size d], .string t] w fun e w' => e = .returned (.tuple #[.int .i64 (verV s xs t ys), .int .i64 (chkC s t)]) ∧ Below w.heap.size w w' := by
  obtain ⟨hs1, hs20⟩ := progB_len hp
  obtain ⟨W, hW⟩ : ∃ W, W = (w.alloc (.cells #[.slice A s.size c] 26)).alloc (.cells #[.slice C s.size d] 26) := ⟨_, rfl⟩
  have T0 : Below w.heap.size w W := by rw [hW]; exact ba (ba (b0 w) _) _
  have ra : Rd W W.heap.size 1 A s.size (ints xs) := by rw [hW]; exact (ha.a1 _).a1 _
  have rb : Rd W W.heap.size 1 C s.size (ints ys) := by rw [hW]; exact (hb.a1 _).a1 _
  have k1 : W.cell? ⟨w.heap.size, 0, none⟩ = some (.slice A s.size c) := by rw [hW]; exact cell_alloc (cell_new rfl rfl) _
  have k2 : W.cell? ⟨w.heap.size + 1, 0, none⟩ = some (.slice C s.size d) := by rw [hW]; exact cell_new (by simp) rfl
  have HW := Lib.hid hW
  have HY := Lib.hid hy
  have HPU := Lib.hid (punched_any s t A c xs W hp hx ra ht)
  clear hW ha hb hp hx hy
  obtain ⟨z, hz⟩ : ∃ z, z = chkC s t := ⟨_, rfl⟩
  by_cases h0 : z = 0
  · have HR := Lib.hid (pchR_0 (xs := xs) (show chkC s t = 0 by rw [← hz, h0]))
    have HV := Lib.hid (show verV s xs t ys = wrgI (pchL s xs t) ys s.size by unfold verV; rw [if_pos (by rw [← hz, h0])])
    rw [HR.out, pchL_length, ← hz, h0] at HPU
    have HZ := Lib.hid hz
    have HL := Lib.hid (pchL_length s xs t)
    subst h0
    clear hz
    go_enter Tryz.func38, Tryz.ntmps38
    go_wp2_with fail
    rw [← HW.out]
    refine HPU.out.mono ?_
    rintro e w1 ⟨B, g, rfl, ho, hb1⟩
    have T1 := bs T0 hb1
    have k1' := cell_later hb1 k1
    have k2' := cell_later hb1 k2
    have rb1 := rb.up hb1
    have ro := (Ob.of ho).rd
    have TB := ba (b0 w1) (.cells #[.slice B s.size g] 26)
    have q3 := cell_new (w := w1) (cs := #[.slice B s.size g]) (e := 26) (j := 0) (H := w1.heap.size) rfl rfl
    have q2 := cell_later TB k2'
    have rb2 := rb1.up TB
    have ro2 := ro.up TB
    have T2 := bs T1 TB
    clear ho hb1 k1 k2 k1' k2' rb1 ro TB ra rb
    go_wp2
    go_loop [12, 13, 27] (fun _ _ q => ∃ k : Nat, k ≤ s.size ∧ q = .int .i64 k ∧ NoW (pchL s xs t) ys k) (fun _ _ q => s.size - (intOf q).toNat)
    case atStart => exact ⟨0, Nat.zero_le _, rfl, NoW.zero _ _⟩
    case round =>
      obtain ⟨k, hk, rfl, hno⟩ := hrel
      have HNO := Lib.hid hno
      clear hno
      by_cases hlt : k < s.size
      · have i1 : (k : Int) < (s.size : Int) := by omega
        have hkl : k < (pchL s xs t).length := by rw [HL.out]; exact hlt
        have hky : k < ys.length := by rw [HY.out]; exact hlt
        obtain ⟨b, off, hB, _, hc⟩ := ro2.at_ hlt
        obtain ⟨b', off', hC, _, hc'⟩ := rb2.at_ hlt
        subst hB hC
        have d1 := hc k _ (ints_get _ k hkl)
        have d2 := hc' k _ (ints_get _ k hky)
        have HE1 := Lib.hid (getD_of hkl)
        have HE2 := Lib.hid (getD_of hky)
        obtain ⟨u, hu⟩ : ∃ u, u = (pchL s xs t)[k] := ⟨_, rfl⟩
        obtain ⟨v, hv⟩ : ∃ v, v = ys[k] := ⟨_, rfl⟩
        rw [← hu] at d1 HE1
        rw [← hv] at d2 HE2
        clear hc hc' hu hv
        by_cases huv : v = u
        · have HN2 := Lib.hid (HNO.out.succ (by rw [HE1.out, HE2.out, huv]))
          have n1 : (v != u) = false := bne_f huv
          clear huv
          go_wp2
          go_round
          case rel =>
            have P : ∃ k' : Nat, k' ≤ s.size ∧ (Value.int .i64 ((k : Int) + 1)) = .int .i64 k' ∧ NoW (pchL s xs t) ys k' := ⟨k + 1, by omega, by go_num, HN2.out⟩
            first | exact P | exact ⟨_, P, rfl⟩ | exact ⟨_, _, P, rfl, rfl⟩ | exact ⟨_, _, _, P, rfl, rfl, rfl⟩ | exact ⟨_, _, _, _, P, rfl, rfl, rfl, rfl⟩ | exact ⟨_, _, _, _, _, P, rfl, rfl, rfl, rfl, rfl⟩ | exact ⟨_, _, _, _, _, _, P, rfl, rfl, rfl, rfl, rfl, rfl⟩ | exact ⟨_, _, _, _, _, _, _, P, rfl, rfl, rfl, rfl, rfl, rfl, rfl⟩ | exact ⟨_, _, _, _, _, _, _, _, P, rfl, rfl, rfl, rfl, rfl, rfl, rfl, rfl⟩
          case measure => (simp [intOf]; try omega)
        · have HWR := Lib.hid (wrg_some hlt HNO.out (by rw [HE1.out, HE2.out]; exact huv))
          have n1 : (v != u) = true := bne_t huv
          clear huv
          go_wp2
          go_ret2
          exact ⟨ret_vv (HV.out.trans HWR.out).symm HZ.out, T2⟩
      · obtain rfl : k = s.size := by omega
        have HWR := Lib.hid (wrg_none HNO.out)
        go_wp2
        go_ret2
        exact ⟨ret_vv (HV.out.trans HWR.out).symm HZ.out, T2⟩
  · have HR := Lib.hid (pchR_1 (xs := xs) (show ¬ chkC s t = 0 by rw [← hz]; exact h0))
    have HV := Lib.hid (show verV s xs t ys = 0 by unfold verV; rw [if_neg (by rw [← hz]; exact h0)])
    rw [HR.out, ← hz] at HPU
    have n0 : (z != 0) = true := bne_t h0
    have HZ := Lib.hid hz
    clear hz
    go_enter Tryz.func38, Tryz.ntmps38
    go_wp2_with fail
    rw [← HW.out]
    refine HPU.out.mono ?_
    rintro e w1 ⟨B, g, rfl, ho, hb1⟩
    go_wp2
    go_ret2
    exact ⟨ret_vv HV.out.symm HZ.out, ba (bs T0 hb1) _⟩

set_option maxRecDepth 100000 in
set_option maxHeartbeats 8000000 in
theorem l05Wrong_any (s t : ByteArray) (p o : Nat) (A : Option Addr) (c : Nat) (xs : List Int) (p2 o2 : Nat) (C : Option Addr) (d : Nat) (ys : List Int) (w : World) (hp : progB s = true) (hx : xs.length = s.size) (hy : ys.length = s.size)
    (hc1 : w.cell? ⟨p, o, none⟩ = some (.slice A s.size c)) (hc2 : w.cell? ⟨p2, o2, none⟩ = some (.slice C s.size d)) (ha : Rd w w.heap.size 1 A s.size (ints xs)) (hb : Rd w w.heap.size 1 C s.size (ints ys)) (hz : t.size = keysN s) :
    Calls Tryz.prog 40 #[.string s, .pointer (some ⟨p, o, none⟩), .pointer (some ⟨p2, o2, none⟩), .string t] w fun e w' => e = .returned (.int .i64 (wrgI (pchL s xs t) ys s.size)) ∧ Below w.heap.size w w' := by
  obtain ⟨hs1, hs20⟩ := progB_len hp
  have HPU := Lib.hid (l05Punch_any s t p o A c xs w hp hx hc1 ha hz)
  have HY := Lib.hid hy
  have HL := Lib.hid (pchL_length s xs t)
  clear hp hx hy hz
  go_enter Tryz.func40, Tryz.ntmps40
  go_wp2_with fail
  refine HPU.out.mono ?_
  rintro e w1 ⟨B, g, rfl, ho, hb1⟩
  have k2' := cell_later hb1 hc2
  have rb1 := hb.up hb1
  have ro := (Ob.of ho).rd
  have TB := ba (b0 w1) (.cells #[.slice B s.size g] 26)
  have q3 := cell_new (w := w1) (cs := #[.slice B s.size g]) (e := 26) (j := 0) (H := w1.heap.size) rfl rfl
  have q2 := cell_later TB k2'
  have rb2 := rb1.up TB
  have ro2 := ro.up TB
  have T2 := bs hb1 TB
  clear ho hb1 k2' rb1 ro TB ha hb
  obtain ⟨v1, hv1⟩ : ∃ v1, v1 = w1.alloc (.cells #[.slice B s.size g] 26) := ⟨_, rfl⟩
  rw [← hv1] at q3 q2 rb2 ro2 T2
  go_wp2
  rw [← hv1]
  clear hv1
  go_loopw [10] (fun q wr => ∃ k : Nat, k ≤ s.size ∧ q = .int .i64 k ∧ NoW (pchL s xs t) ys k ∧ Below v1.heap.size v1 wr) (fun q _ => s.size - (intOf q).toNat)
  case atStart => exact ⟨0, Nat.zero_le _, rfl, NoW.zero _ _, b0 _⟩
  case round =>
    obtain ⟨wo, rfl⟩ : ∃ wo : World, wo = wr := ⟨_, rfl⟩
    obtain ⟨k, hk, rfl, hno, hbw⟩ := hrel
    have HNO := Lib.hid hno
    clear hno
    by_cases hlt : k < s.size
    · have i1 : (k : Int) < (s.size : Int) := by omega
      have hkl : k < (pchL s xs t).length := by rw [HL.out]; exact hlt
      have hky : k < ys.length := by rw [HY.out]; exact hlt
      obtain ⟨b, off, hB, _, hc⟩ := (ro2.up hbw).at_ hlt
      obtain ⟨b', off', hC, _, hc'⟩ := (rb2.up hbw).at_ hlt
      subst hB hC
      have d1 := hc k _ (ints_get _ k hkl)
      have d2 := hc' k _ (ints_get _ k hky)
      have d3 := cell_later hbw q3
      have d4 := cell_later hbw q2
      have HE1 := Lib.hid (getD_of hkl)
      have HE2 := Lib.hid (getD_of hky)
      obtain ⟨u, hu⟩ : ∃ u, u = (pchL s xs t)[k] := ⟨_, rfl⟩
      obtain ⟨v, hv⟩ : ∃ v, v = ys[k] := ⟨_, rfl⟩
      rw [← hu] at d1 HE1
      rw [← hv] at d2 HE2
      clear hc hc' hu hv
      by_cases huv : v = u
      · have HN2 := Lib.hid (HNO.out.succ (by rw [HE1.out, HE2.out, huv]))
        have n1 : (u != v) = false := bne_f huv.symm
        clear huv
        go_wp2_with fail
        go_quiet (fail)
        go_wp2
        go_roundw
        case rel =>
          have P : ∀ n : Nat, ∃ k' : Nat, k' ≤ s.size ∧ (Value.int .i64 ((k : Int) + 1)) = .int .i64 k' ∧ NoW (pchL s xs t) ys k' ∧ Below v1.heap.size v1 (wo.drewN n) := fun n => ⟨k + 1, by omega, by go_num, HN2.out, below_drewN hbw n⟩
          first | exact P _ | exact ⟨_, P _, rfl⟩
        case measure => (simp [intOf]; try omega)
      · have HWR := Lib.hid (wrg_some hlt HNO.out (by rw [HE1.out, HE2.out]; exact huv))
        have n1 : (u != v) = true := bne_t (fun e => huv e.symm)
        clear huv
        go_wp2_with fail
        go_quiet (fail)
        go_wp2
        go_ret
        exact ⟨ret_int HWR.out.symm, bs T2 (below_drewN hbw _)⟩
    · obtain rfl : k = s.size := by omega
      have HWR := Lib.hid (wrg_none HNO.out)
      go_wp2
      go_ret
      exact ⟨ret_int HWR.out.symm, bs T2 hbw⟩

/-! ### the code of a program card and cards -/
def widB (s : ByteArray) (x : List Int) : Bool := x.length == s.size
def pgC (s : ByteArray) (v : Bool) (L : List (List Int)) : Int := if progB s = true ∧ v = true ∧ L.all cardOk = true then (if L.all (widB s) = true then 0 else 2) else 1
theorem al_step {α : Type} {p : α → Bool} {l : List α} {k : Nat} (hk : k < l.length) (h : (l.take k).all p = true) (hp : p l[k] = true) : (l.take (k + 1)).all p = true := by
  rw [List.take_succ_eq_append_getElem hk, List.all_append, h]
  simp [hp]
theorem al_bad {α : Type} {p : α → Bool} {l : List α} {k : Nat} (hk : k < l.length) (hp : p l[k] = false) : l.all p = false := List.all_eq_false.2 ⟨l[k], List.getElem_mem hk, by simp [hp]⟩
set_option maxRecDepth 100000 in
set_option maxHeartbeats 8000000 in
theorem programCode_any (s : ByteArray) (v : Bool) (D : Option Addr) (c : Nat) (hs : List Hd) (w : World) (ha : RdD w w.heap.size D hs) (hl : hs.length ≤ 1048577) (hs20 : s.size ≤ 1048576) (hlt : ∀ h ∈ hs, h.xs.length ≤ 1048576) :
    Calls Tryz.prog 31 #[.string s, .bool v, .slice D hs.length c] w fun e w' => e = .returned (.int .i64 (pgC s v (cards hs))) ∧ Below w.heap.size w w' := by
  have HLT := Lib.hid hlt
  clear hlt
  cases hp : progB s
  · have HC := Lib.hid (show pgC s v (cards hs) = 1 by unfold pgC; rw [if_neg (by simp [hp])])
    have HP := Lib.hid hp
    clear hp
    go_enter Tryz.func31, Tryz.ntmps31
    go_wp2_with fail
    refine (ValidProgram_any s _ hs20).mono ?_
    rw [HP.out]
    rintro e w1 ⟨rfl, rfl⟩
    go_wp2
    go_ret
    exact ⟨ret_int HC.out.symm, b0 _⟩
  · cases v
    · have HC := Lib.hid (show pgC s false (cards hs) = 1 by unfold pgC; rw [if_neg (by simp)])
      have HP := Lib.hid hp
      clear hp
      go_enter Tryz.func31, Tryz.ntmps31
      go_wp2_with fail
      refine (ValidProgram_any s _ hs20).mono ?_
      rw [HP.out]
      rintro e w1 ⟨rfl, rfl⟩
      go_wp2
      go_ret
      exact ⟨ret_int HC.out.symm, b0 _⟩
    · have HP := Lib.hid hp
      clear hp
      go_enter Tryz.func31, Tryz.ntmps31
      go_wp2_with fail
      refine (ValidProgram_any s _ hs20).mono ?_
      rw [HP.out]
      rintro e w1 ⟨rfl, rfl⟩
      go_wp2
      go_loopw [8, 20] (fun _ q wr => ∃ k : Nat, k ≤ hs.length ∧ q = .int .i64 k ∧ ((cards hs).take k).all cardOk = true ∧ Below w.heap.size w wr) (fun _ q _ => hs.length - (intOf q).toNat)
      case atStart => exact ⟨0, Nat.zero_le _, rfl, by simp, b0 _⟩
      case round =>
        obtain ⟨wo, rfl⟩ : ∃ wo : World, wo = wr := ⟨_, rfl⟩
        obtain ⟨k, hk, rfl, hno, hbw⟩ := hrel
        have HNO := Lib.hid hno
        clear hno
        by_cases hlt : k < hs.length
        · have i1 : (k : Int) < (hs.length : Int) := by omega
          have hkc : k < (cards hs).length := by rw [cards_length]; exact hlt
          have r0 := ha.up hbw
          obtain ⟨b, off, hD, _, hc⟩ := r0.at_ hlt
          have d1 := hc k hlt
          have rc := r0.card_at hlt
          have hxl := HLT.out hs[k] (List.getElem_mem hlt)
          have HCA := Lib.hid (cards_at hs k hkc)
          subst hD
          have TB := ba (b0 wo) (.cells #[.slice hs[k].a hs[k].xs.length hs[k].c] 26)
          have rc2 := rc.up TB
          have HB2 := Lib.hid (bs hbw TB)
          clear hc r0 rc TB
          go_wp2_with fail
          refine (ValidCard_any _ _ hs[k].xs _ rc2 hxl).mono ?_
          cases hok : cardOk hs[k].xs
          · have HC := Lib.hid (show pgC s true (cards hs) = 1 by unfold pgC; rw [if_neg (fun h => by have := al_bad (p := cardOk) hkc (by rw [HCA.out]; exact hok); rw [this] at h; simp at h)])
            rintro e w2 ⟨rfl, hb2⟩
            clear hok
            go_wp2
            go_ret
            exact ⟨ret_int HC.out.symm, bs HB2.out hb2⟩
          · have HN2 := Lib.hid (al_step hkc HNO.out (by rw [HCA.out]; exact hok))
            rintro e w2 ⟨rfl, hb2⟩
            have HB3 := Lib.hid (bs HB2.out hb2)
            clear hok hb2
            go_wp2
            go_roundw
            case rel =>
              have P : ∃ k' : Nat, k' ≤ hs.length ∧ (Value.int .i64 ((k : Int) + 1)) = .int .i64 k' ∧ ((cards hs).take k').all cardOk = true ∧ Below w.heap.size w w2 := ⟨k + 1, by omega, by go_num, HN2.out, HB3.out⟩
              first | exact P | exact ⟨_, P, rfl⟩ | exact ⟨_, _, P, rfl, rfl⟩ | exact ⟨_, _, _, P, rfl, rfl, rfl⟩ | exact ⟨_, _, _, _, P, rfl, rfl, rfl, rfl⟩ | exact ⟨_, _, _, _, _, P, rfl, rfl, rfl, rfl, rfl⟩ | exact ⟨_, _, _, _, _, _, P, rfl, rfl, rfl, rfl, rfl, rfl⟩ | exact ⟨_, _, _, _, _, _, _, P, rfl, rfl, rfl, rfl, rfl, rfl, rfl⟩ | exact ⟨_, _, _, _, _, _, _, _, P, rfl, rfl, rfl, rfl, rfl, rfl, rfl, rfl⟩
            case measure => (simp [intOf]; try omega)
        · obtain rfl : k = hs.length := by omega
          have HALL := Lib.hid (show (cards hs).all cardOk = true by
            have := HNO.out
            rwa [List.take_of_length_le (by rw [cards_length]; omega)] at this)
          go_wp2
          go_loopw [10, 30] (fun _ q wr => ∃ k : Nat, k ≤ hs.length ∧ q = .int .i64 k ∧ ((cards hs).take k).all (widB s) = true ∧ Below w.heap.size w wr) (fun _ q _ => hs.length - (intOf q).toNat)
          case atStart => exact ⟨0, Nat.zero_le _, rfl, by simp, hbw⟩
          case round =>
            obtain ⟨wp, rfl⟩ : ∃ wp : World, wp = wr := ⟨_, rfl⟩
            obtain ⟨k, hk, rfl, hno, hbw⟩ := hrel
            have HNW := Lib.hid hno
            clear hno
            by_cases hlt : k < hs.length
            · have i1 : (k : Int) < (hs.length : Int) := by omega
              have hkc : k < (cards hs).length := by rw [cards_length]; exact hlt
              have r0 := ha.up hbw
              obtain ⟨b, off, hD, _, hc⟩ := r0.at_ hlt
              have d1 := hc k hlt
              have hxl := HLT.out hs[k] (List.getElem_mem hlt)
              have HCA := Lib.hid (cards_at hs k hkc)
              subst hD
              have TB := ba (b0 wp) (.cells #[.slice hs[k].a hs[k].xs.length hs[k].c] 26)
              have HB2 := Lib.hid (bs hbw TB)
              clear hc r0 TB
              go_wp2_with fail
              refine (columns_any _ _ _ _ hxl).mono ?_
              rintro e w2 ⟨rfl, hb2⟩
              by_cases hw : hs[k].xs.length = s.size
              · have n1 : ((hs[k].xs.length : Int) != (s.size : Int)) = false := bne_f (by omega)
                have HN2 := Lib.hid (al_step hkc HNW.out (show widB s (cards hs)[k] = true by rw [HCA.out]; unfold widB; simp [hw]))
                have HB3 := Lib.hid (bs HB2.out hb2)
                clear hw hb2
                go_wp2
                go_roundw
                case rel =>
                  have P : ∃ k' : Nat, k' ≤ hs.length ∧ (Value.int .i64 ((k : Int) + 1)) = .int .i64 k' ∧ ((cards hs).take k').all (widB s) = true ∧ Below w.heap.size w w2 := ⟨k + 1, by omega, by go_num, HN2.out, HB3.out⟩
                  first | exact P | exact ⟨_, P, rfl⟩ | exact ⟨_, _, P, rfl, rfl⟩ | exact ⟨_, _, _, P, rfl, rfl, rfl⟩ | exact ⟨_, _, _, _, P, rfl, rfl, rfl, rfl⟩ | exact ⟨_, _, _, _, _, P, rfl, rfl, rfl, rfl, rfl⟩ | exact ⟨_, _, _, _, _, _, P, rfl, rfl, rfl, rfl, rfl, rfl⟩ | exact ⟨_, _, _, _, _, _, _, P, rfl, rfl, rfl, rfl, rfl, rfl, rfl⟩ | exact ⟨_, _, _, _, _, _, _, _, P, rfl, rfl, rfl, rfl, rfl, rfl, rfl, rfl⟩
                case measure => (simp [intOf]; try omega)
              · have n1 : ((hs[k].xs.length : Int) != (s.size : Int)) = true := bne_t (by omega)
                have HC := Lib.hid (show pgC s true (cards hs) = 2 by
                  unfold pgC
                  rw [if_pos ⟨HP.out, rfl, HALL.out⟩, if_neg (fun h => by
                    have := al_bad (p := widB s) hkc (by rw [HCA.out]; unfold widB; simp [hw])
                    rw [this] at h
                    simp at h)])
                go_wp2
                go_ret
                exact ⟨ret_int HC.out.symm, bs HB2.out hb2⟩
            · obtain rfl : k = hs.length := by omega
              have HC := Lib.hid (show pgC s true (cards hs) = 0 by
                unfold pgC
                have := HNW.out
                rw [List.take_of_length_le (by rw [cards_length]; omega)] at this
                rw [if_pos ⟨HP.out, rfl, HALL.out⟩, if_pos this])
              go_wp2
              go_ret
              exact ⟨ret_int HC.out.symm, hbw⟩
end Go.Proofs.YtkmejkeanmjfbaaGreatDoor
