/- Program cards and keys: letters, valid programs, how many keys are needed, the code of keys, the card that is punched; in the program and in the reference. -/
import Derived.Test.YthbgdnjlmaadjaaCollate
import Derived.Test.YthbgdnjlmaadjaaSelectAll
import Derived.Test.YthbgdnjlmaadjaaCardFns
import Derived.Test.YthbgdnjlmaadjaaShift
import Derived.Lib.Strings
import Derived.Lib.Bytealg
namespace Go.Proofs.Ythbgdnjlmaadjaa
open Go.RowKit

/-! ### letters -/
def letN (n : Int) : Bool := (n == 109) || ((n == 110) || ((n == 115) || (n == 100)))
def keyN (n : Int) : Bool := (n == 109) || (n == 110)
theorem isLetter_any (n : Int) (w : World) : Calls Try.prog 138 #[.int .u8 n] w fun e w' => e = .returned (.bool (letN n)) ∧ w = w' := by
  have HL := Lib.hid (show letN n = ((n == 109) || ((n == 110) || ((n == 115) || (n == 100)))) from rfl)
  obtain ⟨a, ha⟩ : ∃ a, a = (n == 109) := ⟨_, rfl⟩
  obtain ⟨b, hb⟩ : ∃ b, b = (n == 110) := ⟨_, rfl⟩
  obtain ⟨c, hc⟩ : ∃ c, c = (n == 115) := ⟨_, rfl⟩
  obtain ⟨d, hd⟩ : ∃ d, d = (n == 100) := ⟨_, rfl⟩
  rw [← ha, ← hb, ← hc, ← hd] at HL
  replace ha := ha.symm
  replace hb := hb.symm
  replace hc := hc.symm
  replace hd := hd.symm
  cases a <;> cases b <;> cases c <;> cases d
  all_goals
    go_enter Try.func138, Try.ntmps138
    go_wp2
    go_ret
    exact ⟨ret_bool (by rw [HL.out]; rfl), rfl⟩
theorem l05Letter_any (n : Int) (w : World) : Calls Try.prog 168 #[.int .u8 n] w fun e w' => e = .returned (.bool (letN n)) ∧ w = w' := by
  have HL := Lib.hid (show letN n = ((n == 109) || ((n == 110) || ((n == 115) || (n == 100)))) from rfl)
  obtain ⟨a, ha⟩ : ∃ a, a = (n == 109) := ⟨_, rfl⟩
  obtain ⟨b, hb⟩ : ∃ b, b = (n == 110) := ⟨_, rfl⟩
  obtain ⟨c, hc⟩ : ∃ c, c = (n == 115) := ⟨_, rfl⟩
  obtain ⟨d, hd⟩ : ∃ d, d = (n == 100) := ⟨_, rfl⟩
  rw [← ha, ← hb, ← hc, ← hd] at HL
  replace ha := ha.symm
  replace hb := hb.symm
  replace hc := hc.symm
  replace hd := hd.symm
  cases a <;> cases b <;> cases c <;> cases d
  all_goals
    go_enter Try.func168, Try.ntmps168
    go_wp2
    go_ret
    exact ⟨ret_bool (by rw [HL.out]; rfl), rfl⟩
theorem l05Keyed_any (n : Int) (w : World) : Calls Try.prog 131 #[.int .u8 n] w fun e w' => e = .returned (.bool (keyN n)) ∧ w = w' := by
  have HL := Lib.hid (show keyN n = ((n == 109) || (n == 110)) from rfl)
  obtain ⟨a, ha⟩ : ∃ a, a = (n == 109) := ⟨_, rfl⟩
  obtain ⟨b, hb⟩ : ∃ b, b = (n == 110) := ⟨_, rfl⟩
  rw [← ha, ← hb] at HL
  replace ha := ha.symm
  replace hb := hb.symm
  cases a <;> cases b
  all_goals
    go_enter Try.func131, Try.ntmps131
    go_wp2
    go_ret
    exact ⟨ret_bool (by rw [HL.out]; rfl), rfl⟩

/-! ### valid programs -/
def letC (c : UInt8) : Bool := letN (c.toNat : Int)
def keyC (c : UInt8) : Bool := keyN (c.toNat : Int)
def progB (s : ByteArray) : Bool := (byt s).all letC && insideB (s.size : Int) 1 20
theorem progB_len {s : ByteArray} (h : progB s = true) : 1 ≤ s.size ∧ s.size ≤ 20 := by
  simp only [progB, Bool.and_eq_true] at h
  have := insideB_true h.2
  omega
theorem progB_no {s : ByteArray} (h : (byt s).all letC = false) : progB s = false := by unfold progB; rw [h]; rfl
theorem progB_yes {s : ByteArray} (h : (byt s).all letC = true) : progB s = insideB (s.size : Int) 1 20 := by unfold progB; rw [h]; rfl
theorem ValidProgram_any (s : ByteArray) (w : World) (hl : s.size ≤ 1048576) : Calls Try.prog 57 #[.string s] w fun e w' => e = .returned (.bool (progB s)) ∧ w = w' := by
  have HA := Lib.hid (any_not_allI letC (byt s))
  have HS := Lib.hid (byt_size s)
  go_enter Try.func57, Try.ntmps57
  go_wp2
  go_loop [3] (fun i => ∃ k : Nat, k ≤ s.size ∧ i = .int .i64 k ∧ ((byt s).take k).any (fun c => !letC c) = false) (fun i => s.size - (intOf i).toNat)
  case atStart => exact ⟨0, by omega, rfl, rfl⟩
  case round =>
    obtain ⟨k, hk, rfl, hno⟩ := hrel
    have HNO := Lib.hid hno
    clear hno
    by_cases hlt : k < s.size
    · have HKL := Lib.hid (show k < (byt s).length by rw [HS.out]; exact hlt)
      have HAT := Lib.hid (byt_at s k hlt)
      rcases Bool.eq_false_or_eq_true (letN (s[k].toNat : Int)) with hp | hp
      · have HB2 := Lib.hid (show letC ((byt s)[k]'HKL.out) = true by rw [HAT.out]; exact hp)
        have HP := Lib.hid (any_take_succ (p := fun c => !letC c) HKL.out HNO.out (by rw [HB2.out]; rfl))
        go_wp2_with fail
        refine (isLetter_any (s[k].toNat : Int) _).mono ?_; rintro e w1 ⟨rfl, rfl⟩
        go_wp2
        go_round
        case rel => exact ⟨k + 1, by omega, by go_num, HP.out⟩
        case measure => simp [intOf]; omega
      · have HB2 := Lib.hid (show letC ((byt s)[k]'HKL.out) = false by rw [HAT.out]; exact hp)
        have HP := Lib.hid (progB_no (List.all_eq_false.2 ⟨(byt s)[k]'HKL.out, List.getElem_mem HKL.out, by rw [HB2.out]; simp⟩))
        go_wp2_with fail
        refine (isLetter_any (s[k].toNat : Int) _).mono ?_; rintro e w1 ⟨rfl, rfl⟩
        go_wp2
        go_ret
        exact ⟨ret_bool HP.out.symm, rfl⟩
    · have HP := Lib.hid (progB_yes (s := s) (by
        have h1 := any_take_all (l := byt s) (by rw [HS.out]; exact hlt) HNO.out
        rw [HA.out] at h1
        simpa using h1))
      go_wp2_with fail
      refine (inside_any _ _ _ _).mono ?_; rintro e w1 ⟨rfl, rfl⟩
      go_wp2
      go_ret
      exact ⟨ret_bool HP.out.symm, rfl⟩
theorem l05Ok_any (s : ByteArray) (w : World) (hl : s.size ≤ 1048576) : Calls Try.prog 136 #[.string s] w fun e w' => e = .returned (.bool (progB s)) ∧ w = w' := by
  have HA := Lib.hid (any_not_allI letC (byt s))
  have HS := Lib.hid (byt_size s)
  go_enter Try.func136, Try.ntmps136
  go_wp2
  go_loop [3] (fun i => ∃ k : Nat, k ≤ s.size ∧ i = .int .i64 k ∧ ((byt s).take k).any (fun c => !letC c) = false) (fun i => s.size - (intOf i).toNat)
  case atStart => exact ⟨0, by omega, rfl, rfl⟩
  case round =>
    obtain ⟨k, hk, rfl, hno⟩ := hrel
    have HNO := Lib.hid hno
    clear hno
    by_cases hlt : k < s.size
    · have HKL := Lib.hid (show k < (byt s).length by rw [HS.out]; exact hlt)
      have HAT := Lib.hid (byt_at s k hlt)
      rcases Bool.eq_false_or_eq_true (letN (s[k].toNat : Int)) with hp | hp
      · have HB2 := Lib.hid (show letC ((byt s)[k]'HKL.out) = true by rw [HAT.out]; exact hp)
        have HP := Lib.hid (any_take_succ (p := fun c => !letC c) HKL.out HNO.out (by rw [HB2.out]; rfl))
        go_wp2_with fail
        refine (l05Letter_any (s[k].toNat : Int) _).mono ?_; rintro e w1 ⟨rfl, rfl⟩
        go_wp2
        go_round
        case rel => exact ⟨k + 1, by omega, by go_num, HP.out⟩
        case measure => simp [intOf]; omega
      · have HB2 := Lib.hid (show letC ((byt s)[k]'HKL.out) = false by rw [HAT.out]; exact hp)
        have HP := Lib.hid (progB_no (List.all_eq_false.2 ⟨(byt s)[k]'HKL.out, List.getElem_mem HKL.out, by rw [HB2.out]; simp⟩))
        go_wp2_with fail
        refine (l05Letter_any (s[k].toNat : Int) _).mono ?_; rintro e w1 ⟨rfl, rfl⟩
        go_wp2
        go_ret
        exact ⟨ret_bool HP.out.symm, rfl⟩
    · have HP := Lib.hid (progB_yes (s := s) (by
        have h1 := any_take_all (l := byt s) (by rw [HS.out]; exact hlt) HNO.out
        rw [HA.out] at h1
        simpa using h1))
      go_wp2_with fail
      refine (l00In_any _ _ _ _).mono ?_; rintro e w1 ⟨rfl, rfl⟩
      go_wp2
      go_ret
      exact ⟨ret_bool HP.out.symm, rfl⟩

/-! ### how many keys -/
def keysTo (s : ByteArray) (i : Nat) : Nat := ((byt s).take i).countP keyC
def keysN (s : ByteArray) : Nat := (byt s).countP keyC
theorem keysTo_all (s : ByteArray) : keysTo s s.size = keysN s := by unfold keysTo keysN; rw [List.take_of_length_le (by rw [byt_size]; omega)]
theorem keysTo_succ {s : ByteArray} {i : Nat} (h : i < s.size) : keysTo s (i + 1) = keysTo s i + if keyN (s[i].toNat : Int) = true then 1 else 0 := by
  unfold keysTo
  rw [List.take_succ_eq_append_getElem (by rw [byt_size]; exact h), List.countP_append, byt_at s i h]
  congr 1
  simp only [List.countP_cons, List.countP_nil, Nat.zero_add]
  rfl
theorem keysTo_yes {s : ByteArray} {i : Nat} (h : i < s.size) (hk : keyN (s[i].toNat : Int) = true) : keysTo s (i + 1) = keysTo s i + 1 := by rw [keysTo_succ h, if_pos hk]
theorem keysTo_no {s : ByteArray} {i : Nat} (h : i < s.size) (hk : keyN (s[i].toNat : Int) = false) : keysTo s (i + 1) = keysTo s i := by rw [keysTo_succ h, if_neg (by simp [hk])]; rfl
theorem keysTo_le (s : ByteArray) (i : Nat) : keysTo s i ≤ keysN s := by
  unfold keysTo keysN
  exact List.Sublist.countP_le (List.take_sublist _ _)
theorem keysTo_lt {s : ByteArray} {i : Nat} (h : i < s.size) (hk : keyN (s[i].toNat : Int) = true) : keysTo s i < keysN s := by
  have := keysTo_le s (i + 1)
  rw [keysTo_yes h hk] at this
  omega
theorem keysN_le (s : ByteArray) : keysN s ≤ s.size := by
  have := List.countP_le_length (p := keyC) (l := byt s)
  rw [byt_size] at this
  exact this
theorem keysN_two (s : ByteArray) : (byt s).count 109 + (byt s).count 110 = keysN s := by
  unfold keysN
  induction byt s with
  | nil => rfl
  | cons c l ih =>
    rw [List.count_cons, List.count_cons, List.countP_cons]
    have hk : keyC c = ((c == 109) || (c == 110)) := by
      have h : ∀ n : Fin 256, keyC (UInt8.ofNat n.val) = ((UInt8.ofNat n.val == 109) || (UInt8.ofNat n.val == 110)) := by decide +kernel
      have := h ⟨c.toNat, UInt8.toNat_lt c⟩
      simpa using this
    rw [hk]
    by_cases h1 : c = 109
    · subst h1
      simp
      omega
    · by_cases h2 : c = 110
      · subst h2
        simp
        omega
      · have e1 : (c == 109) = false := beq_eq_false_iff_ne.2 h1
        have e2 : (c == 110) = false := beq_eq_false_iff_ne.2 h2
        rw [e1, e2]
        simp
        exact ih
set_option maxHeartbeats 1000000 in
set_option maxRecDepth 100000 in
theorem stringsCount_any (s : ByteArray) (c : UInt8) (w : World) :
    Calls Try.prog 167 #[.string s, .string ⟨#[c]⟩] w fun e w' => e = .returned (.int .i64 ((byt s).count c : Nat)) ∧ w = w' := by
  go_enter Try.func167, Try.ntmps167
  go_wp2
  rw [run_callFunc_extern Try.func174 (by kernel_rfl) (by kernel_rfl) (by kernel_rfl) (e := Extern.BytealgCount.count) (by kernel_rfl), Lib.run_countString]
  simp only [Result.andThen]
  rw [Oper.upon_value]
  go_wp2
  go_ret
  exact ⟨ret_int (by simp [Lib.countByte, byt, Nat.toUInt8]; rfl), rfl⟩
theorem keysNeeded_any (s : ByteArray) (w : World) (hl : s.size ≤ 1048576) : Calls Try.prog 135 #[.string s] w fun e w' => e = .returned (.int .i64 (keysN s : Int)) ∧ w = w' := by
  have HT := Lib.hid (keysN_two s)
  have h2 := keysN_le s
  obtain ⟨a, ha⟩ : ∃ a, a = (byt s).count 109 := ⟨_, rfl⟩
  obtain ⟨b, hb⟩ : ∃ b, b = (byt s).count 110 := ⟨_, rfl⟩
  have HA := Lib.hid ha
  have HB := Lib.hid hb
  have hab : a + b ≤ 1048576 := by have := HT.out; omega
  have HS := Lib.hid (show (a : Int) + (b : Int) = (keysN s : Int) by have := HT.out; omega)
  clear ha hb h2
  go_enter Try.func135, Try.ntmps135
  go_wp2_with fail
  refine (stringsCount_any s 109 _).mono ?_
  rw [← HA.out]
  rintro e w1 ⟨rfl, rfl⟩
  go_wp2_with fail
  refine (stringsCount_any s 110 _).mono ?_
  rw [← HB.out]
  rintro e w1 ⟨rfl, rfl⟩
  go_wp2
  go_ret
  exact ⟨ret_int (by first | exact HS.out | (rw [← HS.out])), rfl⟩
theorem l05Keys_any (s : ByteArray) (w : World) (hl : s.size ≤ 1048576) : Calls Try.prog 137 #[.string s] w fun e w' => e = .returned (.int .i64 (keysN s : Int)) ∧ w = w' := by
  have HN := Lib.hid (keysTo_all s)
  have hle := keysN_le s
  go_enter Try.func137, Try.ntmps137
  go_wp2
  go_loop [3, 4] (fun n i => ∃ k : Nat, k ≤ s.size ∧ i = .int .i64 k ∧ n = .int .i64 (keysTo s k : Nat)) (fun _ i => s.size - (intOf i).toNat)
  case atStart => exact ⟨0, by omega, rfl, rfl⟩
  case round =>
    obtain ⟨k, hk, rfl, rfl⟩ := hrel
    by_cases hlt : k < s.size
    · have h3 := keysTo_le s k
      rcases Bool.eq_false_or_eq_true (keyN (s[k].toNat : Int)) with hp | hp
      · have HK := Lib.hid (keysTo_yes hlt hp)
        have HE := Lib.hid (show ((keysTo s k : Nat) : Int) + 1 = ((keysTo s (k + 1) : Nat) : Int) by rw [HK.out]; rfl)
        obtain ⟨q, hq⟩ : ∃ q, q = keysTo s k := ⟨_, rfl⟩
        rw [← hq] at h3 HE ⊢
        have HQ := Lib.hid hq
        clear hq
        have hp' := hp
        go_wp2_with fail
        refine (l05Keyed_any (s[k].toNat : Int) _).mono ?_; rintro e w1 ⟨rfl, rfl⟩
        go_wp2
        go_round
        case rel => exact ⟨k + 1, by omega, by go_num, by rw [← HE.out]⟩
        case measure => simp [intOf]; omega
      · have HK := Lib.hid (keysTo_no hlt hp)
        go_wp2_with fail
        refine (l05Keyed_any (s[k].toNat : Int) _).mono ?_; rintro e w1 ⟨rfl, rfl⟩
        go_wp2
        go_round
        case rel => exact ⟨k + 1, by omega, by go_num, by rw [HK.out]⟩
        case measure => simp [intOf]; omega
    · obtain rfl : k = s.size := by omega
      go_wp2
      go_ret
      exact ⟨ret_int (by rw [HN.out]), rfl⟩
end Go.Proofs.Ythbgdnjlmaadjaa
