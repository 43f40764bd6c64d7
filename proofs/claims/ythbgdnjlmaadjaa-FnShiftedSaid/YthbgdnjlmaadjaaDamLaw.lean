/- What FnDamages leans on: its sizes, lists of numbers that are the same, illegal columns; the plain laws. -/
import Derived.Test.YthbgdnjlmaadjaaDmDraw
import Derived.Test.YthbgdnjlmaadjaaHoles
import Derived.Test.YthbgdnjlmaadjaaDistLaw
import Derived.Test.YthbgdnjlmaadjaaFix
namespace Go.Proofs.Ythbgdnjlmaadjaa
open Go.RowKit

/-! ### holes that one card has and the other has not -/
theorem wrap_nat_zero {r : Nat} (h : r < 18446744073709551616) (hz : IntKind.i64.wrap (r : Int) = 0) : r = 0 := by
  rw [IntKind.wrap_i64] at hz
  omega
theorem andn_both {a b : Int} (h0 : 0 ≤ a) (h1 : a ≤ 4095) (h2 : 0 ≤ b) (h3 : b ≤ 4095) (h : bits .andNot .i64 a b = 0) (k : bits .andNot .i64 b a = 0) : a = b := by
  have e1 : BitVec.ofInt 64 a &&& ~~~BitVec.ofInt 64 b = 0#64 := by
    apply BitVec.eq_of_toNat_eq
    exact wrap_nat_zero (BitVec.isLt _) h
  have e2 : BitVec.ofInt 64 b &&& ~~~BitVec.ofInt 64 a = 0#64 := by
    apply BitVec.eq_of_toNat_eq
    exact wrap_nat_zero (BitVec.isLt _) k
  have e : BitVec.ofInt 64 a = BitVec.ofInt 64 b := by
    apply BitVec.eq_of_getLsbD_eq
    intro i hi
    have c1 := congrArg (fun v => v.getLsbD i) e1
    have c2 := congrArg (fun v => v.getLsbD i) e2
    simp only [BitVec.getLsbD_and, BitVec.getLsbD_not, hi, decide_true, Bool.true_and, BitVec.getLsbD_zero] at c1 c2
    revert c1 c2
    cases (BitVec.ofInt 64 a).getLsbD i <;> cases (BitVec.ofInt 64 b).getLsbD i <;> simp
  have := congrArg BitVec.toInt e
  rw [BitVec.toInt_ofInt, BitVec.toInt_ofInt] at this
  rw [Int.bmod_def, Int.bmod_def] at this
  omega
theorem andn_self (a : Int) : bits .andNot .i64 a a = 0 := by
  unfold bits
  simp only
  rw [BitVec.and_not_self]
  rfl
theorem cols_nil {p : Nat → Bool} {n : Nat} : (colsWhere p n).length = 0 ↔ ∀ k, k < n → p k = false := by
  unfold colsWhere
  rw [List.length_map, List.length_eq_zero_iff, List.filter_eq_nil_iff]
  constructor
  · intro h k hk
    have := h k (List.mem_range.2 hk)
    simpa using this
  · intro h k hk
    simp [h k (List.mem_range.1 hk)]
theorem dam_zero {xs ys : List Int} (hz : pairC xs ys = 0) : distRes xs ys = 0 ↔ (addedRes xs ys).length = 0 ∧ (lostRes xs ys).length = 0 := by
  obtain ⟨h1, h2, h3⟩ := pairC_zero hz
  unfold distRes addedRes lostRes
  rw [if_pos hz, if_pos hz, if_pos hz, cols_nil, cols_nil]
  unfold distV
  rw [distTo_zero h1 h2]
  unfold moreAt
  constructor
  · intro h
    exact ⟨fun k hk => by rw [h k hk, andn_self]; rfl, fun k hk => by rw [h k hk, andn_self]; rfl⟩
  · rintro ⟨h, k⟩ j hj
    have a1 := getD_hole h1 j
    have a2 := getD_hole h2 j
    have b1 := h j hj
    have b2 := k j hj
    exact andn_both a1.1 a1.2 a2.1 a2.2 (by simpa using b2) (by simpa using b1)
theorem dist_swap (xs ys : List Int) : distRes ys xs = distRes xs ys := by
  unfold distRes
  rw [pairC_swap ys xs]
  by_cases h : pairC xs ys = 0
  · rw [if_pos h, if_pos h]
    obtain ⟨h1, h2, h3⟩ := pairC_zero h
    unfold distV
    rw [distTo_comm h2 h1, h3]
  · rw [if_neg h, if_neg h]
theorem f6big_no (A : Option Addr) (n c : Nat) (w : World) (h : ¬ 4096 < n) : Calls Try.prog 7 #[.slice A n c] w fun e w' => e = .returned (.bool false) ∧ w = w' := by
  have i1 : ¬ (4096 : Int) < (n : Int) := by omega
  go_enter Try.func7, Try.ntmps7
  go_wp2
  go_ret
  exact ⟨ret_bool (by simp [i1]), rfl⟩
theorem f6big_yes (A : Option Addr) (n c : Nat) (w : World) (h : 4096 < n) : Calls Try.prog 7 #[.slice A n c] w fun e w' => e = .returned (.bool true) ∧ w = w' := by
  have i1 : (4096 : Int) < (n : Int) := by omega
  go_enter Try.func7, Try.ntmps7
  go_wp2
  go_ret
  exact ⟨ret_bool (by simp [i1]), rfl⟩
set_option maxHeartbeats 2000000 in
theorem f6ints_eq (n : Nat) (A A' : Option Addr) (c c' : Nat) (xs : List Int) (w : World) (hn : xs.length = n) (ha : Rd w w.heap.size 1 A n (ints xs)) (hb : Rd w w.heap.size 1 A' n (ints xs)) (hl : n ≤ 1048576) :
    Calls Try.prog 21 #[.slice A n c, .slice A' n c'] w fun e w' => e = .returned (.bool true) ∧ Below w.heap.size w w' := by
  have HN := Lib.hid hn
  have e0 : ((n : Int) != (n : Int)) = false := bne_f rfl
  clear hn
  go_enter Try.func21, Try.ntmps21
  go_wp2
  go_loopw [5] (fun i wr => ∃ k : Nat, k ≤ n ∧ i = .int .i64 k ∧ Below w.heap.size w wr) (fun i _ => n - (intOf i).toNat)
  case atStart => exact ⟨0, Nat.zero_le _, rfl, b0 _⟩
  case round =>
    obtain ⟨k, hk, rfl, hbw⟩ := hrel
    by_cases hlt : k < n
    · have hkx : k < xs.length := by rw [HN.out]; exact hlt
      obtain ⟨b, off, rfl, _, hc⟩ := (ha.up hbw).at_ hlt
      obtain ⟨b', off', rfl, _, hc'⟩ := (hb.up hbw).at_ hlt
      obtain ⟨v, hv⟩ : ∃ v, v = xs[k] := ⟨_, rfl⟩
      have h1 := hc k _ (ints_get xs k hkx)
      have h2 := hc' k _ (ints_get xs k hkx)
      rw [← hv] at h1 h2
      have i1 : (k : Int) < (n : Int) := by omega
      have hq : (v != v) = false := bne_f rfl
      clear hc hc' hv
      go_wp2_with fail
      go_quiet (fail)
      go_wp2
      go_roundw
      case rel => exact ⟨k + 1, by omega, by go_num, below_drewN hbw _⟩
      case measure => (simp [intOf]; try omega)
    · obtain rfl : k = n := by omega
      go_wp2
      go_ret
      exact ⟨rfl, hbw⟩
set_option maxHeartbeats 2000000 in
theorem IllegalColumns_good (A : Option Addr) (n c : Nat) (xs : List Int) (w : World) (hn : xs.length = n) (hok : cardOk xs = true) (hl : legalL xs = true) (ha : Rd w w.heap.size 1 A n (ints xs)) (hl40 : n ≤ 40) (hc : n ≤ c) :
    Calls Try.prog 23 #[.agg #[.slice A n c]] w fun e w' => ∃ G cg, e = .returned (.tuple #[.slice G 0 cg, .int .i64 0]) ∧ Below w.heap.size w w' := by
  have HN := Lib.hid hn
  have HL := Lib.hid hl
  have ra := ha.a1 (.cells #[.slice A n c] 26)
  have T0 := ba (b0 w) (.cells #[.slice A n c] 26)
  have k0 : (w.alloc (.cells #[.slice A n c] 26)).cell? ⟨w.heap.size, 0, none⟩ = some (.slice A n c) := cell_new rfl rfl
  have HV := Lib.hid (show ∀ W : World, Rd W W.heap.size 1 A n (ints xs) → Calls Try.prog 88 #[.agg #[.slice A n c]] W fun e w' => e = .returned (.bool true) ∧ Below W.heap.size W w' from fun W x => by
    have := ValidCard_any A c xs W (by rw [hn]; exact x) (by omega)
    rwa [hn, hok] at this)
  clear hn hok hl
  go_enter Try.func23, Try.ntmps23
  go_wp2_with fail
  refine (HV.out _ ra).mono ?_; rintro e w1 ⟨rfl, hb1⟩
  have T1 := bs T0 hb1
  have ra1 := ra.up hb1
  replace k0 := cell_later hb1 k0
  have k0a := cell_alloc k0 (.cells #[] 2)
  clear hb1 ra T0
  go_wp2
  go_loopw [4, 14] (fun o i wr => ∃ (k : Nat) (G : Option Addr) (cg : Nat), k ≤ n ∧ i = .int .i64 k ∧ o = .slice G 0 cg ∧ Below w1.heap.size w1 wr) (fun _ i _ => n - (intOf i).toNat)
  case atStart => exact ⟨0, _, 0, Nat.zero_le _, rfl, rfl, ba (b0 _) _⟩
  case round =>
    obtain ⟨k, G, cg, hk, rfl, rfl, hbw⟩ := hrel
    by_cases hlt : k < n
    · have hkx : k < xs.length := by rw [HN.out]; exact hlt
      obtain ⟨b, off, rfl, _, hc'⟩ := (ra1.up hbw).at_ hlt
      obtain ⟨v, hv⟩ : ∃ v, v = xs[k] := ⟨_, rfl⟩
      have h1 := hc' k _ (ints_get xs k hkx)
      rw [← hv] at h1
      have HR := Lib.hid (show legalM v = true by rw [hv]; exact List.all_eq_true.1 HL.out _ (List.getElem_mem hkx))
      have i1 : (k : Int) < (n : Int) := by omega
      clear hc' hv
      go_wp2_with fail
      refine (rankOf_any v _).mono ?_
      rintro e w2 ⟨rfl, rfl⟩
      have hr : ¬ rankM v < 0 := by have := HR.out; unfold legalM at this; simpa using this
      go_wp2
      go_roundw
      case rel => exact ⟨k + 1, G, cg, by omega, by go_num, rfl, hbw⟩
      case measure => (simp [intOf]; try omega)
    · obtain rfl : k = n := by omega
      go_wp2
      go_ret2
      exact ⟨_, _, rfl, bs T1 hbw⟩
end Go.Proofs.Ythbgdnjlmaadjaa
