/- Program cards and keys: letters, valid programs, how many keys are needed, the code of keys, the card that is punched; in the program and in the reference. The code of keys for a program card, the card that is punched, and the first column that differs; in the program and in the reference. The code of keys and the card that is punched, in the reference; the first column that differs, in both. The first column that differs, and the code of a program card and cards; in the program and in the reference. -/
import Derived.Test.YtkmejkeanmjfbaaDoorCollate
import Derived.Test.YtkmejkeanmjfbaaDoorSelectAll
import Derived.Test.YtkmejkeanmjfbaaDoorCardFns
import Derived.Test.YtkmejkeanmjfbaaDoorShift
import Derived.Lib.Strings
import Derived.Lib.Bytealg
import Derived.Deep.RegionHeld3
import Derived.Test.YtkmejkeanmjfbaaDoorDrawAll
import Derived.Test.YtkmejkeanmjfbaaDoorDecks
import Derived.Deep.QuietTactic
/-! ### Program cards and keys: letters, valid programs, how many keys are needed, the code of keys, the card that is punched; in the program and in the reference. -/
namespace Go.Proofs.YtkmejkeanmjfbaaDoor
open Go.RowKit

/-! ### letters -/
def letN (n : Int) : Bool := (n == 109) || ((n == 110) || ((n == 115) || (n == 100)))
def keyN (n : Int) : Bool := (n == 109) || (n == 110)
theorem isLetter_any (n : Int) (w : World) : Calls Tryd.prog 42 #[.int .u8 n] w fun e w' => e = .returned (.bool (letN n)) ∧ w = w' := by
  have HL := Lib.hid (show letN n = ((n == 109) || ((n == 110) || ((n == 115) || (n == 100)))) from rfl)
  obtain ⟨a, ha⟩ : ∃ a, a = (n == 109) := ⟨_, rfl⟩
  obtain ⟨b, hb⟩ : ∃ b, b = (n == 110) := ⟨_, rfl⟩
  obtain ⟨c, hc⟩ : ∃ c, c = (n == 115) := ⟨_, rfl⟩
  obtain ⟨d, hd⟩ : ∃ d, d = (n == 100) := ⟨_, rfl⟩
  rw [← ha, ← hb, ← hc, ← hd] at HL
  replace ha := ha.symm
  replace hb := hb.symm
  replace hc := hc.symm
  replace hd := hd.symm
  cases a <;> cases b <;> cases c <;> cases d
  all_goals
    go_enter Tryd.func42, Tryd.ntmps42
    go_wp2
    go_ret
    exact ⟨ret_bool (by rw [HL.out]; rfl), rfl⟩
theorem l05Letter_any (n : Int) (w : World) : Calls Tryd.prog 7 #[.int .u8 n] w fun e w' => e = .returned (.bool (letN n)) ∧ w = w' := by
  have HL := Lib.hid (show letN n = ((n == 109) || ((n == 110) || ((n == 115) || (n == 100)))) from rfl)
  obtain ⟨a, ha⟩ : ∃ a, a = (n == 109) := ⟨_, rfl⟩
  obtain ⟨b, hb⟩ : ∃ b, b = (n == 110) := ⟨_, rfl⟩
  obtain ⟨c, hc⟩ : ∃ c, c = (n == 115) := ⟨_, rfl⟩
  obtain ⟨d, hd⟩ : ∃ d, d = (n == 100) := ⟨_, rfl⟩
  rw [← ha, ← hb, ← hc, ← hd] at HL
  replace ha := ha.symm
  replace hb := hb.symm
  replace hc := hc.symm
  replace hd := hd.symm
  cases a <;> cases b <;> cases c <;> cases d
  all_goals
    go_enter Tryd.func7, Tryd.ntmps7
    go_wp2
    go_ret
    exact ⟨ret_bool (by rw [HL.out]; rfl), rfl⟩
/-! ### valid programs -/
def letC (c : UInt8) : Bool := letN (c.toNat : Int)
def keyC (c : UInt8) : Bool := keyN (c.toNat : Int)
def progB (s : ByteArray) : Bool := (byt s).all letC && insideB (s.size : Int) 1 20
theorem progB_len {s : ByteArray} (h : progB s = true) : 1 ≤ s.size ∧ s.size ≤ 20 := by
  simp only [progB, Bool.and_eq_true] at h
  have := insideB_true h.2
  omega
theorem progB_no {s : ByteArray} (h : (byt s).all letC = false) : progB s = false := by unfold progB; rw [h]; rfl
theorem progB_yes {s : ByteArray} (h : (byt s).all letC = true) : progB s = insideB (s.size : Int) 1 20 := by unfold progB; rw [h]; rfl
theorem ValidProgram_any (s : ByteArray) (w : World) (hl : s.size ≤ 1048576) : Calls Tryd.prog 28 #[.string s] w fun e w' => e = .returned (.bool (progB s)) ∧ w = w' := by
  have HA := Lib.hid (any_not_allI letC (byt s))
  have HS := Lib.hid (byt_size s)
  go_enter Tryd.func28, Tryd.ntmps28
  go_wp2
  go_loop [3] (fun i => ∃ k : Nat, k ≤ s.size ∧ i = .int .i64 k ∧ ((byt s).take k).any (fun c => !letC c) = false) (fun i => s.size - (intOf i).toNat)
  case atStart => exact ⟨0, by omega, rfl, rfl⟩
  case round =>
    obtain ⟨k, hk, rfl, hno⟩ := hrel
    have HNO := Lib.hid hno
    clear hno
    by_cases hlt : k < s.size
    · have HKL := Lib.hid (show k < (byt s).length by rw [HS.out]; exact hlt)
      have HAT := Lib.hid (byt_at s k hlt)
      rcases Bool.eq_false_or_eq_true (letN (s[k].toNat : Int)) with hp | hp
      · have HB2 := Lib.hid (show letC ((byt s)[k]'HKL.out) = true by rw [HAT.out]; exact hp)
        have HP := Lib.hid (any_take_succ (p := fun c => !letC c) HKL.out HNO.out (by rw [HB2.out]; rfl))
        go_wp2_with fail
        refine (isLetter_any (s[k].toNat : Int) _).mono ?_; rintro e w1 ⟨rfl, rfl⟩
        go_wp2
        go_round
        case rel => exact ⟨k + 1, by omega, by go_num, HP.out⟩
        case measure => simp [intOf]; omega
      · have HB2 := Lib.hid (show letC ((byt s)[k]'HKL.out) = false by rw [HAT.out]; exact hp)
        have HP := Lib.hid (progB_no (List.all_eq_false.2 ⟨(byt s)[k]'HKL.out, List.getElem_mem HKL.out, by rw [HB2.out]; simp⟩))
        go_wp2_with fail
        refine (isLetter_any (s[k].toNat : Int) _).mono ?_; rintro e w1 ⟨rfl, rfl⟩
        go_wp2
        go_ret
        exact ⟨ret_bool HP.out.symm, rfl⟩
    · have HP := Lib.hid (progB_yes (s := s) (by
        have h1 := any_take_all (l := byt s) (by rw [HS.out]; exact hlt) HNO.out
        rw [HA.out] at h1
        simpa using h1))
      go_wp2_with fail
      refine (inside_any _ _ _ _).mono ?_; rintro e w1 ⟨rfl, rfl⟩
      go_wp2
      go_ret
      exact ⟨ret_bool HP.out.symm, rfl⟩
theorem l05Ok_any (s : ByteArray) (w : World) (hl : s.size ≤ 1048576) : Calls Tryd.prog 10 #[.string s] w fun e w' => e = .returned (.bool (progB s)) ∧ w = w' := by
  have HA := Lib.hid (any_not_allI letC (byt s))
  have HS := Lib.hid (byt_size s)
  go_enter Tryd.func10, Tryd.ntmps10
  go_wp2
  go_loop [3] (fun i => ∃ k : Nat, k ≤ s.size ∧ i = .int .i64 k ∧ ((byt s).take k).any (fun c => !letC c) = false) (fun i => s.size - (intOf i).toNat)
  case atStart => exact ⟨0, by omega, rfl, rfl⟩
  case round =>
    obtain ⟨k, hk, rfl, hno⟩ := hrel
    have HNO := Lib.hid hno
    clear hno
    by_cases hlt : k < s.size
    · have HKL := Lib.hid (show k < (byt s).length by rw [HS.out]; exact hlt)
      have HAT := Lib.hid (byt_at s k hlt)
      rcases Bool.eq_false_or_eq_true (letN (s[k].toNat : Int)) with hp | hp
      · have HB2 := Lib.hid (show letC ((byt s)[k]'HKL.out) = true by rw [HAT.out]; exact hp)
        have HP := Lib.hid (any_take_succ (p := fun c => !letC c) HKL.out HNO.out (by rw [HB2.out]; rfl))
        go_wp2_with fail
        refine (l05Letter_any (s[k].toNat : Int) _).mono ?_; rintro e w1 ⟨rfl, rfl⟩
        go_wp2
        go_round
        case rel => exact ⟨k + 1, by omega, by go_num, HP.out⟩
        case measure => simp [intOf]; omega
      · have HB2 := Lib.hid (show letC ((byt s)[k]'HKL.out) = false by rw [HAT.out]; exact hp)
        have HP := Lib.hid (progB_no (List.all_eq_false.2 ⟨(byt s)[k]'HKL.out, List.getElem_mem HKL.out, by rw [HB2.out]; simp⟩))
        go_wp2_with fail
        refine (l05Letter_any (s[k].toNat : Int) _).mono ?_; rintro e w1 ⟨rfl, rfl⟩
        go_wp2
        go_ret
        exact ⟨ret_bool HP.out.symm, rfl⟩
    · have HP := Lib.hid (progB_yes (s := s) (by
        have h1 := any_take_all (l := byt s) (by rw [HS.out]; exact hlt) HNO.out
        rw [HA.out] at h1
        simpa using h1))
      go_wp2_with fail
      refine (l00In_any _ _ _ _).mono ?_; rintro e w1 ⟨rfl, rfl⟩
      go_wp2
      go_ret
      exact ⟨ret_bool HP.out.symm, rfl⟩

/-! ### how many keys -/
def keysTo (s : ByteArray) (i : Nat) : Nat := ((byt s).take i).countP keyC
def keysN (s : ByteArray) : Nat := (byt s).countP keyC
theorem keysTo_all (s : ByteArray) : keysTo s s.size = keysN s := by unfold keysTo keysN; rw [List.take_of_length_le (by rw [byt_size]; omega)]
theorem keysTo_succ {s : ByteArray} {i : Nat} (h : i < s.size) : keysTo s (i + 1) = keysTo s i + if keyN (s[i].toNat : Int) = true then 1 else 0 := by
  unfold keysTo
  rw [List.take_succ_eq_append_getElem (by rw [byt_size]; exact h), List.countP_append, byt_at s i h]
  congr 1
  simp only [List.countP_cons, List.countP_nil, Nat.zero_add]
  rfl
theorem keysTo_yes {s : ByteArray} {i : Nat} (h : i < s.size) (hk : keyN (s[i].toNat : Int) = true) : keysTo s (i + 1) = keysTo s i + 1 := by rw [keysTo_succ h, if_pos hk]
theorem keysTo_no {s : ByteArray} {i : Nat} (h : i < s.size) (hk : keyN (s[i].toNat : Int) = false) : keysTo s (i + 1) = keysTo s i := by rw [keysTo_succ h, if_neg (by simp [hk])]; rfl
theorem keysTo_le (s : ByteArray) (i : Nat) : keysTo s i ≤ keysN s := by
  unfold keysTo keysN
  exact List.Sublist.countP_le (List.take_sublist _ _)
theorem keysTo_lt {s : ByteArray} {i : Nat} (h : i < s.size) (hk : keyN (s[i].toNat : Int) = true) : keysTo s i < keysN s := by
  have := keysTo_le s (i + 1)
  rw [keysTo_yes h hk] at this
  omega
theorem keysN_le (s : ByteArray) : keysN s ≤ s.size := by
  have := List.countP_le_length (p := keyC) (l := byt s)
  rw [byt_size] at this
  exact this
theorem keysN_two (s : ByteArray) : (byt s).count 109 + (byt s).count 110 = keysN s := by
  unfold keysN
  induction byt s with
  | nil => rfl
  | cons c l ih =>
    rw [List.count_cons, List.count_cons, List.countP_cons]
    have hk : keyC c = ((c == 109) || (c == 110)) := by
      have h : ∀ n : Fin 256, keyC (UInt8.ofNat n.val) = ((UInt8.ofNat n.val == 109) || (UInt8.ofNat n.val == 110)) := by decide +kernel
      have := h ⟨c.toNat, UInt8.toNat_lt c⟩
      simpa using this
    rw [hk]
    by_cases h1 : c = 109
    · subst h1
      simp
      omega
    · by_cases h2 : c = 110
      · subst h2
        simp
        omega
      · have e1 : (c == 109) = false := beq_eq_false_iff_ne.2 h1
        have e2 : (c == 110) = false := beq_eq_false_iff_ne.2 h2
        rw [e1, e2]
        simp
        exact ih
set_option maxHeartbeats 1000000 in
set_option maxRecDepth 100000 in
theorem stringsCount_any (s : ByteArray) (c : UInt8) (w : World) :
    Calls Tryd.prog 31 #[.string s, .string ⟨#[c]⟩] w fun e w' => e = .returned (.int .i64 ((byt s).count c : Nat)) ∧ w = w' := by
  go_enter Tryd.func31, Tryd.ntmps31
  go_wp2
  rw [run_callFunc_extern Tryd.func45 (by kernel_rfl) (by kernel_rfl) (by kernel_rfl) (e := Extern.BytealgCount.count) (by kernel_rfl), Lib.run_countString]
  simp only [Result.andThen]
  rw [Oper.upon_value]
  go_wp2
  go_ret
  exact ⟨ret_int (by simp [Lib.countByte, byt, Nat.toUInt8]; rfl), rfl⟩
end Go.Proofs.YtkmejkeanmjfbaaDoor

/-! ### The code of keys for a program card, the card that is punched, and the first column that differs; in the program and in the reference. -/
namespace Go.Proofs.YtkmejkeanmjfbaaDoor
open Go.RowKit

/-! ### plain -/
def byC (s : ByteArray) (i : Nat) : UInt8 := (byt s).getD i 0
theorem byC_at {s : ByteArray} {i : Nat} (h : i < s.size) : byC s i = s[i] := by
  unfold byC
  have h2 : i < (byt s).length := by rw [byt_size]; exact h
  rw [List.getD_eq_getElem?_getD, List.getElem?_eq_getElem h2, byt_at s i h]
  rfl
/-- The code of a column's key. -/
def chkAt (s t : ByteArray) (i : Nat) : Int :=
  if keyN ((byC s i).toNat : Int) = true then (if chB (byC t (keysTo s i)) = true then (if ((byC s i).toNat : Int) = 110 ∧ digB ((byC t (keysTo s i)).toNat : Int) = false then 10 else 0) else 7) else 0
def chkO (s t : ByteArray) (i : Nat) : Option Int := if chkAt s t i = 0 then none else some (chkAt s t i)
def chkC (s t : ByteArray) : Int := if t.size = keysN s then (((List.range s.size).findSome? (chkO s t)).getD 0) else 5
def NoChk (s t : ByteArray) (k : Nat) : Prop := ∀ j, j < k → chkAt s t j = 0
theorem NoChk.zero (s t : ByteArray) : NoChk s t 0 := fun j h => absurd h (Nat.not_lt_zero j)
theorem NoChk.succ {s t : ByteArray} {k : Nat} (h : NoChk s t k) (hk : chkAt s t k = 0) : NoChk s t (k + 1) := by
  intro j hj
  rcases Nat.lt_succ_iff_lt_or_eq.1 hj with hj | rfl
  · exact h j hj
  · exact hk
theorem ff_some {α : Type} {f : Nat → Option α} {n k : Nat} {v : α} (hk : k < n) (hno : ∀ j, j < k → f j = none) (h : f k = some v) : (List.range n).findSome? f = some v := by
  induction n with
  | zero => omega
  | succ n ih =>
    rw [List.range_succ, List.findSome?_append]
    by_cases e : k = n
    · subst e
      have : (List.range k).findSome? f = none := by
        rw [List.findSome?_eq_none_iff]
        intro j hj
        exact hno j (List.mem_range.1 hj)
      rw [this]
      simp [h]
    · rw [ih (by omega)]
      rfl
theorem chk_some {s t : ByteArray} {k : Nat} {v : Int} (hz : t.size = keysN s) (hk : k < s.size) (hno : NoChk s t k) (h : chkAt s t k = v) (hv : v ≠ 0) : chkC s t = v := by
  unfold chkC
  rw [if_pos hz, ff_some hk (fun j hj => by unfold chkO; rw [if_pos (hno j hj)]) (show chkO s t k = some v by unfold chkO; rw [if_neg (by rw [h]; exact hv), h])]
  rfl
theorem chk_none {s t : ByteArray} (hz : t.size = keysN s) (hno : NoChk s t s.size) : chkC s t = 0 := by
  unfold chkC
  have : (List.range s.size).findSome? (chkO s t) = none := by
    rw [List.findSome?_eq_none_iff]
    intro j hj
    unfold chkO
    rw [if_pos (hno j (List.mem_range.1 hj))]
  rw [if_pos hz, this]
  rfl
theorem chk_len {s t : ByteArray} (hz : ¬ t.size = keysN s) : chkC s t = 5 := by unfold chkC; rw [if_neg hz]
theorem chk_zero {s t : ByteArray} (h : chkC s t = 0) : t.size = keysN s ∧ NoChk s t s.size := by
  by_cases hz : t.size = keysN s
  · refine ⟨hz, fun j hj => ?_⟩
    unfold chkC at h
    rw [if_pos hz] at h
    cases hf : (List.range s.size).findSome? (chkO s t) with
    | none =>
      have := List.findSome?_eq_none_iff.1 hf j (List.mem_range.2 hj)
      unfold chkO at this
      split at this
      · assumption
      · cases this
    | some v =>
      rw [hf] at h
      obtain ⟨i, _, hi⟩ := List.exists_of_findSome?_eq_some hf
      unfold chkO at hi
      split at hi
      · cases hi
      · rename_i h0
        injection hi with hi
        rw [hi] at h0
        exact absurd h h0
  · rw [chk_len hz] at h
    omega
/-- A column of the card that is punched. -/
def pchAt (s : ByteArray) (xs : List Int) (t : ByteArray) (i : Nat) : Int := if keyN ((byC s i).toNat : Int) = true then codeV (byC t (keysTo s i)).toNat else if ((byC s i).toNat : Int) = 100 then xs.getD i 0 else 0
def pchL (s : ByteArray) (xs : List Int) (t : ByteArray) : List Int := (List.range s.size).map (pchAt s xs t)
theorem pchL_length (s : ByteArray) (xs : List Int) (t : ByteArray) : (pchL s xs t).length = s.size := by simp [pchL]
theorem pchL_at {s : ByteArray} {xs : List Int} {t : ByteArray} {k : Nat} (h : k < (pchL s xs t).length) : (pchL s xs t)[k] = pchAt s xs t k := by simp [pchL]
def pchTo (s : ByteArray) (xs : List Int) (t : ByteArray) (k : Nat) : List Int := (pchL s xs t).take k ++ List.replicate (s.size - k) 0
theorem pchTo_zero (s : ByteArray) (xs : List Int) (t : ByteArray) : pchTo s xs t 0 = List.replicate s.size 0 := by simp [pchTo]
theorem pchTo_all (s : ByteArray) (xs : List Int) (t : ByteArray) : pchTo s xs t s.size = pchL s xs t := by
  unfold pchTo
  rw [List.take_of_length_le (by rw [pchL_length]; omega)]
  simp
theorem pchTo_length {s : ByteArray} {xs : List Int} {t : ByteArray} {k : Nat} (h : k ≤ s.size) : (pchTo s xs t k).length = s.size := by
  unfold pchTo
  rw [List.length_append, List.length_take, pchL_length, List.length_replicate]
  omega
theorem pchTo_set {s : ByteArray} {xs : List Int} {t : ByteArray} {k : Nat} {v : Int} (h : k < s.size) (hv : pchAt s xs t k = v) : (pchTo s xs t k).set k v = pchTo s xs t (k + 1) := by
  have hl : ((pchL s xs t).take k).length = k := by rw [List.length_take, pchL_length]; omega
  unfold pchTo
  rw [List.set_append_right _ _ (by omega), hl, Nat.sub_self, show s.size - k = (s.size - (k + 1)) + 1 by omega, List.replicate_succ, List.set_cons_zero,
    List.take_succ_eq_append_getElem (by rw [pchL_length]; exact h), pchL_at, hv, List.append_assoc]
  rfl
theorem pchTo_stay {s : ByteArray} {xs : List Int} {t : ByteArray} {k : Nat} (h : k < s.size) (hv : pchAt s xs t k = 0) : pchTo s xs t k = pchTo s xs t (k + 1) := by
  unfold pchTo
  rw [show s.size - k = (s.size - (k + 1)) + 1 by omega, List.replicate_succ, List.take_succ_eq_append_getElem (by rw [pchL_length]; exact h), pchL_at, hv, List.append_assoc]
  rfl
def pchR (s : ByteArray) (xs : List Int) (t : ByteArray) : List Int := if chkC s t = 0 then pchL s xs t else []
theorem pchR_0 {s : ByteArray} {xs : List Int} {t : ByteArray} (h : chkC s t = 0) : pchR s xs t = pchL s xs t := by unfold pchR; rw [if_pos h]
theorem pchR_1 {s : ByteArray} {xs : List Int} {t : ByteArray} (h : ¬ chkC s t = 0) : pchR s xs t = [] := by unfold pchR; rw [if_neg h]
/-- The four letters. -/
theorem letters {s : ByteArray} (h : progB s = true) {k : Nat} (hk : k < s.size) : (s[k].toNat : Int) = 109 ∨ (s[k].toNat : Int) = 110 ∨ (s[k].toNat : Int) = 115 ∨ (s[k].toNat : Int) = 100 := by
  simp only [progB, Bool.and_eq_true] at h
  have h2 := List.all_eq_true.1 h.1 ((byt s)[k]'(by rw [byt_size]; exact hk)) (List.getElem_mem _)
  rw [byt_at s k hk] at h2
  simp only [letC, letN, Bool.or_eq_true, beq_iff_eq] at h2
  exact h2
section
variable {s t : ByteArray} {xs : List Int} {k : Nat}
theorem at_dup (hk : k < s.size) (hx : xs.length = s.size) (h : (s[k].toNat : Int) = 100) : keyN (s[k].toNat : Int) = false ∧ chkAt s t k = 0 ∧ pchAt s xs t k = xs[k]'(by omega) := by
  have hn : keyN (s[k].toNat : Int) = false := by rw [h]; rfl
  refine ⟨hn, ?_, ?_⟩
  · unfold chkAt; rw [byC_at hk, hn]; rfl
  · unfold pchAt; rw [byC_at hk, hn, if_neg (by simp), if_pos h]; simp [List.getD, List.getElem?_eq_getElem (show k < xs.length by omega)]
theorem at_skip (hk : k < s.size) (h : (s[k].toNat : Int) = 115) : keyN (s[k].toNat : Int) = false ∧ chkAt s t k = 0 ∧ pchAt s xs t k = 0 := by
  have hn : keyN (s[k].toNat : Int) = false := by rw [h]; rfl
  refine ⟨hn, ?_, ?_⟩
  · unfold chkAt; rw [byC_at hk, hn]; rfl
  · unfold pchAt; rw [byC_at hk, hn, if_neg (by simp), if_neg (by omega)]
theorem at_key {q : Nat} (hqq : q = keysTo s k) (hk : k < s.size) (h : (s[k].toNat : Int) = 109 ∨ (s[k].toNat : Int) = 110) (hq : q < t.size) : keyN (s[k].toNat : Int) = true ∧ chkAt s t k = (if chB t[q] = true then (if (s[k].toNat : Int) = 110 ∧ digB (t[q].toNat : Int) = false then 10 else 0) else 7) ∧ pchAt s xs t k = codeV t[q].toNat := by
  subst hqq
  have hn : keyN (s[k].toNat : Int) = true := by rcases h with h | h <;> rw [h] <;> rfl
  refine ⟨hn, ?_, ?_⟩
  · unfold chkAt; rw [byC_at hk, byC_at hq, if_pos hn]
  · unfold pchAt; rw [byC_at hk, byC_at hq, if_pos hn]
end

/-- Behind k columns. -/
def PnR (s t : ByteArray) (xs : List Int) (A : Option Addr) (c g b3 : Nat) (w wq wr : World) (q9 q : Value) : Prop := ∃ k : Nat, k ≤ s.size ∧ q = .int .i64 k ∧ q9 = .int .i64 (keysTo s k : Nat) ∧ NoChk s t k ∧
  wr.ownsRow wq.heap.size 2 1 (.slice (some ⟨g, 0, none⟩) s.size s.size) s.size (ints (pchTo s xs t k)) ∧ wr.cell? ⟨w.heap.size, 0, none⟩ = some (.slice A s.size c) ∧ wr.cell? ⟨w.heap.size + 1, 0, none⟩ = some (.slice none 0 0) ∧
  wr.frozen? ⟨w.heap.size + 1, 0, none⟩ = false ∧ wr.cell? ⟨b3, 0, none⟩ = some (.slice (some ⟨g, 0, none⟩) s.size s.size) ∧ Below wq.heap.size wq wr ∧ b3 < wr.heap.size

end Go.Proofs.YtkmejkeanmjfbaaDoor

/-! ### The code of keys and the card that is punched, in the reference; the first column that differs, in both. -/
namespace Go.Proofs.YtkmejkeanmjfbaaDoor
open Go.RowKit

theorem chk_plain {s t : ByteArray} {k : Nat} (hk : k < s.size) (h : keyN (s[k].toNat : Int) = false) : chkAt s t k = 0 := by unfold chkAt; rw [byC_at hk, h]; rfl
end Go.Proofs.YtkmejkeanmjfbaaDoor

/-! ### The first column that differs, and the code of a program card and cards; in the program and in the reference. -/
namespace Go.Proofs.YtkmejkeanmjfbaaDoor
open Go.RowKit

/-! ### plain -/
def wrgO (L ys : List Int) (i : Nat) : Option Int := if ys.getD i 0 = L.getD i 0 then none else some (i : Int)
def wrgI (L ys : List Int) (n : Nat) : Int := ((List.range n).findSome? (wrgO L ys)).getD (-1)
def NoW (L ys : List Int) (k : Nat) : Prop := ∀ j, j < k → ys.getD j 0 = L.getD j 0
theorem NoW.zero (L ys : List Int) : NoW L ys 0 := fun j h => absurd h (Nat.not_lt_zero j)
theorem NoW.succ {L ys : List Int} {k : Nat} (h : NoW L ys k) (hk : ys.getD k 0 = L.getD k 0) : NoW L ys (k + 1) := by
  intro j hj
  rcases Nat.lt_succ_iff_lt_or_eq.1 hj with hj | rfl
  · exact h j hj
  · exact hk
theorem wrg_some {L ys : List Int} {n k : Nat} (hk : k < n) (h : NoW L ys k) (hne : ¬ ys.getD k 0 = L.getD k 0) : wrgI L ys n = (k : Int) := by
  unfold wrgI
  rw [ff_some hk (fun j hj => by unfold wrgO; rw [if_pos (h j hj)]) (show wrgO L ys k = some (k : Int) by unfold wrgO; rw [if_neg hne])]
  rfl
theorem wrg_none {L ys : List Int} {n : Nat} (h : NoW L ys n) : wrgI L ys n = -1 := by
  unfold wrgI
  have : (List.range n).findSome? (wrgO L ys) = none := by
    rw [List.findSome?_eq_none_iff]
    intro j hj
    unfold wrgO
    rw [if_pos (h j (List.mem_range.1 hj))]
  rw [this]
  rfl
def verV (s : ByteArray) (xs : List Int) (t : ByteArray) (ys : List Int) : Int := if chkC s t = 0 then wrgI (pchL s xs t) ys s.size else 0
theorem ret_vv {a b c d : Int} (h : a = b) (k : c = d) : Ending.returned (.tuple #[.int .i64 a, .int .i64 c]) = .returned (.tuple #[.int .i64 b, .int .i64 d]) := by rw [h, k]
theorem getD_of {xs : List Int} {k : Nat} (h : k < xs.length) : xs.getD k 0 = xs[k] := by simp [List.getD, List.getElem?_eq_getElem h]

/-! ### the code of a program card and cards -/
def widB (s : ByteArray) (x : List Int) : Bool := x.length == s.size
def pgC (s : ByteArray) (v : Bool) (L : List (List Int)) : Int := if progB s = true ∧ v = true ∧ L.all cardOk = true then (if L.all (widB s) = true then 0 else 2) else 1
theorem al_step {α : Type} {p : α → Bool} {l : List α} {k : Nat} (hk : k < l.length) (h : (l.take k).all p = true) (hp : p l[k] = true) : (l.take (k + 1)).all p = true := by
  rw [List.take_succ_eq_append_getElem hk, List.all_append, h]
  simp [hp]
theorem al_bad {α : Type} {p : α → Bool} {l : List α} {k : Nat} (hk : k < l.length) (hp : p l[k] = false) : l.all p = false := List.all_eq_false.2 ⟨l[k], List.getElem_mem hk, by simp [hp]⟩
end Go.Proofs.YtkmejkeanmjfbaaDoor
