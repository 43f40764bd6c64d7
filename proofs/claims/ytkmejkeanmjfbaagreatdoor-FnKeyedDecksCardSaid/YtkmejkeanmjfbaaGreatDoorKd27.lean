/- What the repair of a card gives: no walk of a whole function yet; the nearest character's code, and the sum of the distances. What FnDamages leans on: its sizes, lists of numbers that are the same, illegal columns; the plain laws. A list of passes without one of them: 'append(append([]Pass{}, list[:k]...), list[k+1:]...)'. -/
import Derived.Test.YtkmejkeanmjfbaaGreatDoorKd3
import Derived.Test.YtkmejkeanmjfbaaGreatDoorKd26
import Derived.Test.YtkmejkeanmjfbaaGreatDoorKd25
import Derived.Test.YtkmejkeanmjfbaaGreatDoorKd1
import Derived.Deep.RegionLaw
/-! ### Fix -/
namespace Go.Proofs.YtkmejkeanmjfbaaGreatDoor
open Go.RowKit

/-- The code of the nearest character. -/
def fixI (m : Int) : Int := codeV (nearTo m 40).1.toNat
theorem near_at (m : Int) (h0 : 0 ≤ m) (h1 : m ≤ 4095) : ∀ k, 1 ≤ k → k ≤ 40 → ∃ (j : Nat) (hj : j < 40), (nearTo m k).1 = charL[j]'hj ∧ (nearTo m k).2 = diffI m (codeV (charL[j]'hj).toNat) := by
  intro k
  induction k with
  | zero => intro h; omega
  | succ k ih =>
    intro _ h2
    by_cases hk : k = 0
    · subst hk
      rw [nearTo_one m h0 h1]
      exact ⟨0, by omega, rfl, rfl⟩
    · obtain ⟨j, hj, e1, e2⟩ := ih (by omega) (by omega)
      by_cases ht : diffI m (codeV (charL[k]'(by omega : k < 40)).toNat) < (nearTo m k).2
      · rw [near_yes (by omega) ht]
        exact ⟨k, by omega, rfl, rfl⟩
      · rw [near_no (by omega) ht]
        exact ⟨j, hj, e1, e2⟩
theorem fix_far (m : Int) (h0 : 0 ≤ m) (h1 : m ≤ 4095) : (nearTo m 40).2 = diffI m (fixI m) := by
  obtain ⟨j, hj, e1, e2⟩ := near_at m h0 h1 40 (by omega) (by omega)
  rw [e2, fixI, e1]
theorem fix_range (m : Int) (h0 : 0 ≤ m) (h1 : m ≤ 4095) : 0 ≤ fixI m ∧ fixI m ≤ 4095 := by
  obtain ⟨j, hj, e1, _⟩ := near_at m h0 h1 40 (by omega) (by omega)
  have := char_code j hj
  rw [fixI, e1]
  exact ⟨this.1, this.2.1⟩
theorem codeOf_fix (m : Int) (h0 : 0 ≤ m) (h1 : m ≤ 4095) (w : World) :
    Calls Tryz.prog 47 #[.int .u8 (nearTo m 40).1.toNat] w fun e w' => e = .returned (.int .i64 (fixI m)) ∧ w = w' := by
  obtain ⟨j, hj, e1, _⟩ := near_at m h0 h1 40 (by omega) (by omega)
  rw [fixI, e1]
  exact codeOf_ch j hj w
theorem l03Code_fix (m : Int) (h0 : 0 ≤ m) (h1 : m ≤ 4095) (w : World) :
    Calls Tryz.prog 50 #[.int .u8 (nearTo m 40).1.toNat] w fun e w' => e = .returned (.int .i64 (fixI m)) ∧ w = w' := by
  obtain ⟨j, hj, e1, _⟩ := near_at m h0 h1 40 (by omega) (by omega)
  rw [fixI, e1]
  exact l03Code_ch j hj w
def fixL (xs : List Int) : List Int := xs.map fixI
theorem fixL_length (xs : List Int) : (fixL xs).length = xs.length := by simp [fixL]
theorem fixL_get (xs : List Int) {k : Nat} (hk : k < xs.length) : (ints (fixL xs))[k]? = some (.int .i64 (fixI xs[k])) := by simp [ints, fixL, hk]
theorem fixL_ok {xs : List Int} (h : cardOk xs = true) : cardOk (fixL xs) = true := by
  simp only [cardOk, Bool.and_eq_true, fixL_length] at h ⊢
  refine ⟨h.1, ?_⟩
  rw [List.all_eq_true] at h ⊢
  intro y hy
  simp only [fixL, List.mem_map] at hy
  obtain ⟨x, hx, rfl⟩ := hy
  have h1 := insideB_true (h.2 x hx)
  have h2 := fix_range x h1.1 h1.2
  simp [holeB, insideB, h2]
/-- The sum of the distances of the first k columns. -/
theorem fix_sum {xs : List Int} (h : cardOk xs = true) {k : Nat} (hk : k < xs.length) : distTo xs (fixL xs) (k + 1) = distTo xs (fixL xs) k + (nearTo xs[k] 40).2 := by
  have h1 := getD_hole h k
  rw [getD_at hk] at h1
  rw [fix_far _ h1.1 h1.2]
  show distTo xs (fixL xs) k + diffI (xs.getD k 0) ((fixL xs).getD k 0) = _
  rw [getD_at hk, getD_at (by rw [fixL_length]; exact hk)]
  simp [fixL]
theorem fix_dist {xs : List Int} (h : cardOk xs = true) : distTo xs (fixL xs) xs.length = distV (fixL xs) xs := by
  unfold distV
  rw [fixL_length, distTo_comm h (fixL_ok h)]
end Go.Proofs.YtkmejkeanmjfbaaGreatDoor

/-! ### DamLaw -/
namespace Go.Proofs.YtkmejkeanmjfbaaGreatDoor
open Go.RowKit

/-! ### holes that one card has and the other has not -/
theorem wrap_nat_zero {r : Nat} (h : r < 18446744073709551616) (hz : IntKind.i64.wrap (r : Int) = 0) : r = 0 := by
  rw [IntKind.wrap_i64] at hz
  omega
theorem andn_both {a b : Int} (h0 : 0 ≤ a) (h1 : a ≤ 4095) (h2 : 0 ≤ b) (h3 : b ≤ 4095) (h : bits .andNot .i64 a b = 0) (k : bits .andNot .i64 b a = 0) : a = b := by
  have e1 : BitVec.ofInt 64 a &&& ~~~BitVec.ofInt 64 b = 0#64 := by
    apply BitVec.eq_of_toNat_eq
    exact wrap_nat_zero (BitVec.isLt _) h
  have e2 : BitVec.ofInt 64 b &&& ~~~BitVec.ofInt 64 a = 0#64 := by
    apply BitVec.eq_of_toNat_eq
    exact wrap_nat_zero (BitVec.isLt _) k
  have e : BitVec.ofInt 64 a = BitVec.ofInt 64 b := by
    apply BitVec.eq_of_getLsbD_eq
    intro i hi
    have c1 := congrArg (fun v => v.getLsbD i) e1
    have c2 := congrArg (fun v => v.getLsbD i) e2
    simp only [BitVec.getLsbD_and, BitVec.getLsbD_not, hi, decide_true, Bool.true_and, BitVec.getLsbD_zero] at c1 c2
    revert c1 c2
    cases (BitVec.ofInt 64 a).getLsbD i <;> cases (BitVec.ofInt 64 b).getLsbD i <;> simp
  have := congrArg BitVec.toInt e
  rw [BitVec.toInt_ofInt, BitVec.toInt_ofInt] at this
  rw [Int.bmod_def, Int.bmod_def] at this
  omega
theorem andn_self (a : Int) : bits .andNot .i64 a a = 0 := by
  unfold bits
  simp only
  rw [BitVec.and_not_self]
  rfl
theorem cols_nil {p : Nat → Bool} {n : Nat} : (colsWhere p n).length = 0 ↔ ∀ k, k < n → p k = false := by
  unfold colsWhere
  rw [List.length_map, List.length_eq_zero_iff, List.filter_eq_nil_iff]
  constructor
  · intro h k hk
    have := h k (List.mem_range.2 hk)
    simpa using this
  · intro h k hk
    simp [h k (List.mem_range.1 hk)]
theorem dam_zero {xs ys : List Int} (hz : pairC xs ys = 0) : distRes xs ys = 0 ↔ (addedRes xs ys).length = 0 ∧ (lostRes xs ys).length = 0 := by
  obtain ⟨h1, h2, h3⟩ := pairC_zero hz
  unfold distRes addedRes lostRes
  rw [if_pos hz, if_pos hz, if_pos hz, cols_nil, cols_nil]
  unfold distV
  rw [distTo_zero h1 h2]
  unfold moreAt
  constructor
  · intro h
    exact ⟨fun k hk => by rw [h k hk, andn_self]; rfl, fun k hk => by rw [h k hk, andn_self]; rfl⟩
  · rintro ⟨h, k⟩ j hj
    have a1 := getD_hole h1 j
    have a2 := getD_hole h2 j
    have b1 := h j hj
    have b2 := k j hj
    exact andn_both a1.1 a1.2 a2.1 a2.2 (by simpa using b2) (by simpa using b1)
theorem dist_swap (xs ys : List Int) : distRes ys xs = distRes xs ys := by
  unfold distRes
  rw [pairC_swap ys xs]
  by_cases h : pairC xs ys = 0
  · rw [if_pos h, if_pos h]
    obtain ⟨h1, h2, h3⟩ := pairC_zero h
    unfold distV
    rw [distTo_comm h2 h1, h3]
  · rw [if_neg h, if_neg h]
theorem f6big_no (A : Option Addr) (n c : Nat) (w : World) (h : ¬ 4096 < n) : Calls Tryz.prog 4 #[.slice A n c] w fun e w' => e = .returned (.bool false) ∧ w = w' := by
  have i1 : ¬ (4096 : Int) < (n : Int) := by omega
  go_enter Tryz.func4, Tryz.ntmps4
  go_wp2
  go_ret
  exact ⟨ret_bool (by simp [i1]), rfl⟩
theorem f6big_yes (A : Option Addr) (n c : Nat) (w : World) (h : 4096 < n) : Calls Tryz.prog 4 #[.slice A n c] w fun e w' => e = .returned (.bool true) ∧ w = w' := by
  have i1 : (4096 : Int) < (n : Int) := by omega
  go_enter Tryz.func4, Tryz.ntmps4
  go_wp2
  go_ret
  exact ⟨ret_bool (by simp [i1]), rfl⟩
set_option maxHeartbeats 2000000 in
theorem f6ints_eq (n : Nat) (A A' : Option Addr) (c c' : Nat) (xs : List Int) (w : World) (hn : xs.length = n) (ha : Rd w w.heap.size 1 A n (ints xs)) (hb : Rd w w.heap.size 1 A' n (ints xs)) (hl : n ≤ 1048576) :
    Calls Tryz.prog 20 #[.slice A n c, .slice A' n c'] w fun e w' => e = .returned (.bool true) ∧ Below w.heap.size w w' := by
  have HN := Lib.hid hn
  have e0 : ((n : Int) != (n : Int)) = false := bne_f rfl
  clear hn
  go_enter Tryz.func20, Tryz.ntmps20
  go_wp2
  go_loopw [5] (fun i wr => ∃ k : Nat, k ≤ n ∧ i = .int .i64 k ∧ Below w.heap.size w wr) (fun i _ => n - (intOf i).toNat)
  case atStart => exact ⟨0, Nat.zero_le _, rfl, b0 _⟩
  case round =>
    obtain ⟨k, hk, rfl, hbw⟩ := hrel
    by_cases hlt : k < n
    · have hkx : k < xs.length := by rw [HN.out]; exact hlt
      obtain ⟨b, off, rfl, _, hc⟩ := (ha.up hbw).at_ hlt
      obtain ⟨b', off', rfl, _, hc'⟩ := (hb.up hbw).at_ hlt
      obtain ⟨v, hv⟩ : ∃ v, v = xs[k] := ⟨_, rfl⟩
      have h1 := hc k _ (ints_get xs k hkx)
      have h2 := hc' k _ (ints_get xs k hkx)
      rw [← hv] at h1 h2
      have i1 : (k : Int) < (n : Int) := by omega
      have hq : (v != v) = false := bne_f rfl
      clear hc hc' hv
      go_wp2_with fail
      go_quiet (fail)
      go_wp2
      go_roundw
      case rel => exact ⟨k + 1, by omega, by go_num, below_drewN hbw _⟩
      case measure => (simp [intOf]; try omega)
    · obtain rfl : k = n := by omega
      go_wp2
      go_ret
      exact ⟨rfl, hbw⟩
end Go.Proofs.YtkmejkeanmjfbaaGreatDoor

/-! ### Cuts -/
namespace Go.Proofs.YtkmejkeanmjfbaaGreatDoor
open Go.RowKit

theorem Rd.pre {w : World} {B size n : Nat} {A : Option Addr} {xs : List Value} (h : Rd w B size A n xs) {k : Nat} (hk : k ≤ n) : Rd w B size A k (xs.take (k * size)) := by
  have hm : k * size ≤ n * size := Nat.mul_le_mul_right _ hk
  refine ⟨by rw [List.length_take, h.1]; omega, fun hn => ?_⟩
  obtain ⟨b, off, e, hb, hc⟩ := h.2 (by omega)
  refine ⟨b, off, e, hb, fun j u hu => hc j u ?_⟩
  rw [List.getElem?_take] at hu
  split at hu
  · exact hu
  · cases hu
/-- What lies behind the first k elements, wherever the cut's address points. -/
theorem Rd.post {w : World} {B size n b o : Nat} {xs : List Value} (h : Rd w B size (some ⟨b, o, none⟩) n xs) {k : Nat} (hk : k ≤ n) : Rd w B size (some ⟨b, o + k * size, none⟩) (n - k) (xs.drop (k * size)) := by
  have hm : k * size ≤ n * size := Nat.mul_le_mul_right _ hk
  have hs : (n - k) * size = n * size - k * size := Nat.sub_mul ..
  refine ⟨by rw [List.length_drop, h.1, hs], fun hn => ?_⟩
  obtain ⟨b', off', e, hb, hc⟩ := h.2 (by omega)
  injection e with e
  injection e with e1 e2
  subst e1
  subst e2
  refine ⟨b, o + k * size, rfl, hb, fun j u hu => ?_⟩
  rw [List.getElem?_drop] at hu
  rw [Nat.add_assoc]
  exact hc _ _ hu
theorem Rd.zero {w : World} {B size n : Nat} {A A' : Option Addr} {xs : List Value} (h : Rd w B size A n xs) (hn : n = 0) : Rd w B size A' n xs := by
  subst hn
  have : xs = [] := List.eq_nil_of_length_eq_zero (by simpa using h.1)
  subst this
  exact Rd.nil _ _ _ _
theorem prs_drop (ps : List (Int × Int)) (k : Nat) : (prs ps).drop (k * 2) = prs (ps.drop k) := by
  induction ps generalizing k with
  | nil => simp [prs]
  | cons p ps ih =>
    cases k with
    | zero => simp
    | succ k =>
      rw [prs_cons, show (k + 1) * 2 = k * 2 + 1 + 1 by omega, List.drop_succ_cons, List.drop_succ_cons, ih]
      simp

section
variable {P : Program}
/-- 'append(out, list...)' at a step of a region that draws its order. -/
theorem step_apc {ops : Array Oper} {o : Oper} {a : Act} {K : Act → World → Prop} {Q : Exit → Act → World → Prop} {E : Prop} (hgd : o.guard = none) (s x : Operand) (t : TypeId)
    (ho : o.op = .call { callee := .builtin .append, args := #[s, x], argTypes := #[t, t] })
    (base : Nat) (e : TypeId) (i : TypeInfo) (z : Value) (size bytes : Nat) (ht : P.underlying t = some (.slice e)) (hi : P.info? e = some i) (hz : i.zero = some z)
    (hsize : i.size = size) (hby : i.bytes = bytes) (hzs : z.cells.size = size) (hsz : 0 < size)
    (A : Option Addr) (n c : Nat) (xs : List Value) (w : World) (hs : a.eval s = .slice A n c) (hown : w.ownsRow base e size (.slice A n c) n xs) (B : Nat) (A' : Option Addr) (m c' : Nat) (news : List Value) (hx : a.eval x = .slice A' m c') (hr : Rd w B size A' m news) (h1 : ∀ u ∈ news, u.oneCell' = true)
    (h63 : n + m ≤ 1099511627776) (hbytes : bytes ≤ 128) (hbase : base ≤ w.heap.size) (N : Nat) (hN : n + m = N) (zs : List Value) (hzs' : xs ++ news = zs)
    (h : ∀ G cap w', w'.ownsRow base e size (.slice G N cap) N zs → Below base w w' → K (a.put o.dst (.slice G N cap)) w') :
    if Region.wanted o (yielded ops a.tmps) = true then Oper.wp P o a w K Q else E := by
  subst hN hzs'
  have hw : Region.wanted o (yielded ops a.tmps) = true := by simp [Region.wanted, hgd]
  rw [if_pos hw]
  obtain ⟨G, cap, w', hrun, h2, h3⟩ := run_append_src (P := P) base t o.type e i z size bytes ht hi hz hsize hby hzs hsz A n c xs hown B A' m c' news hr h1 h63 hbytes hbase
  unfold Oper.wp execOp
  simp only [ho, resolve, invoke, builtin, Sem.run_bind, Sem.run_pure, Result.andThen_ok, List.map_toArray, List.map_cons, List.map_nil, hs, hx, hrun]
  exact h G cap w' h2 ((Below.refl _ _).grown h3 hbase fun k hk => (hown.lt k hk).1)
end
end Go.Proofs.YtkmejkeanmjfbaaGreatDoor
