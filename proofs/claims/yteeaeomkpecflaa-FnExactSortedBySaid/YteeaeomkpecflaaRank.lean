/- Ranks of columns and of characters, comparing; in the program and in the reference. -/
import Derived.Test.YteeaeomkpecflaaKeyLaw
import Derived.Test.YteeaeomkpecflaaLater
import Derived.Test.YteeaeomkpecflaaFuncsInts
import Derived.Test.YteeaeomkpecflaaFuncsCard
namespace Go.Proofs.Yteeaeomkpecflaa
open Go.RowKit

set_option maxHeartbeats 2000000 in
theorem rankOf_any (m : Int) (w : World) :
    Calls Try.prog 147 #[.int .i64 m] w fun e w' => e = .returned (.int .i64 (rankM m)) ∧ w = w' := by
  go_enter Try.func147, Try.ntmps147
  go_wp2
  go_loop [3] (fun i => ∃ k : Nat, k ≤ 40 ∧ i = .int .i64 k ∧ (charL.take k).any (fun c : UInt8 => codeV c.toNat == m) = false) (fun i => 40 - (intOf i).toNat)
  case atStart => exact ⟨0, by omega, rfl, rfl⟩
  case round =>
    obtain ⟨k, hk, rfl, hno⟩ := hrel
    have HNO := Lib.hid hno
    clear hno
    by_cases hlt : k < 40
    · by_cases hp : codeV (charL[k]'hlt).toNat = m
      · have HR := Lib.hid (rankM_hit hlt HNO.out hp)
        have e1 := beq_t hp
        clear hp
        go_wp2_with fail
        refine (codeOf_ch k hlt _).mono ?_; rintro e w1 ⟨rfl, rfl⟩
        go_wp2
        go_ret
        exact ⟨ret_int HR.out.symm, rfl⟩
      · have HP := Lib.hid (any_take_succ (p := fun c : UInt8 => codeV c.toNat == m) (l := charL) hlt HNO.out (by simpa using hp))
        have e1 := beq_f hp
        clear hp
        go_wp2_with fail
        refine (codeOf_ch k hlt _).mono ?_; rintro e w1 ⟨rfl, rfl⟩
        go_wp2
        go_round
        case rel => exact ⟨k + 1, by omega, by go_num, HP.out⟩
        case measure => simp [intOf]; omega
    · obtain rfl : k = 40 := by omega
      have HR := Lib.hid (rankM_none (any_take_all (l := charL) hlt HNO.out))
      go_wp2
      go_ret
      exact ⟨ret_int HR.out.symm, rfl⟩
theorem rankOf_q (m x : Int) (w : World) (hx : x = rankM m) :
    Calls Try.prog 147 #[.int .i64 m] w fun e w' => e = .returned (.int .i64 x) ∧ w = w' := by
  subst hx
  exact rankOf_any m w

theorem ret_cb {a b : Int} {p q : Bool} (h : a = b) (k : p = q) : Ending.returned (.tuple #[.int .u8 a, .bool p]) = .returned (.tuple #[.int .u8 b, .bool q]) := by rw [h, k]
set_option maxHeartbeats 2000000 in
theorem l03Char_yes (m : Int) (w : World) (hm : legalM m = true) :
    Calls Try.prog 144 #[.int .i64 m] w fun e w' => e = .returned (.tuple #[.int .u8 (charM m).toNat, .bool true]) ∧ w = w' := by
  have HM := Lib.hid hm
  clear hm
  go_enter Try.func144, Try.ntmps144
  go_wp2_with fail
  refine (l03Order_any _).mono ?_; rintro e w1 ⟨rfl, rfl⟩
  go_wp2
  go_loop [5] (fun i => ∃ k : Nat, k ≤ 40 ∧ i = .int .i64 k ∧ (charL.take k).any (fun c : UInt8 => codeV c.toNat == m) = false) (fun i => 40 - (intOf i).toNat)
  case atStart => exact ⟨0, by omega, rfl, rfl⟩
  case round =>
    obtain ⟨k, hk, rfl, hno⟩ := hrel
    have HNO := Lib.hid hno
    clear hno
    by_cases hlt : k < 40
    · by_cases hp : codeV (charL[k]'hlt).toNat = m
      · have HR := Lib.hid (charM_of hlt (rankM_hit hlt HNO.out hp))
        have HB := Lib.hid (charB_at k hlt)
        have e1 := beq_t hp
        clear hp
        go_wp2_with fail
        refine (l03Code_ch k hlt _).mono ?_; rintro e w1 ⟨rfl, rfl⟩
        go_wp2
        go_ret2
        exact ⟨ret_cb (by rw [HR.out, ← HB.out]) rfl, rfl⟩
      · have HP := Lib.hid (any_take_succ (p := fun c : UInt8 => codeV c.toNat == m) (l := charL) hlt HNO.out (by simpa using hp))
        have e1 := beq_f hp
        clear hp
        go_wp2_with fail
        refine (l03Code_ch k hlt _).mono ?_; rintro e w1 ⟨rfl, rfl⟩
        go_wp2
        go_round
        case rel => exact ⟨k + 1, by omega, by go_num, HP.out⟩
        case measure => simp [intOf]; omega
    · exfalso
      have HR := rankM_none (any_take_all (l := charL) (k := k) (by show ¬ k < 40; omega) HNO.out)
      have h2 := HM.out
      unfold legalM at h2
      rw [HR] at h2
      simp at h2
set_option maxHeartbeats 2000000 in
theorem l03Char_no (m : Int) (w : World) (hm : legalM m = false) :
    Calls Try.prog 144 #[.int .i64 m] w fun e w' => e = .returned (.tuple #[.int .u8 0, .bool false]) ∧ w = w' := by
  have HM := Lib.hid hm
  clear hm
  go_enter Try.func144, Try.ntmps144
  go_wp2_with fail
  refine (l03Order_any _).mono ?_; rintro e w1 ⟨rfl, rfl⟩
  go_wp2
  go_loop [5] (fun i => ∃ k : Nat, k ≤ 40 ∧ i = .int .i64 k ∧ (charL.take k).any (fun c : UInt8 => codeV c.toNat == m) = false) (fun i => 40 - (intOf i).toNat)
  case atStart => exact ⟨0, by omega, rfl, rfl⟩
  case round =>
    obtain ⟨k, hk, rfl, hno⟩ := hrel
    have HNO := Lib.hid hno
    clear hno
    by_cases hlt : k < 40
    · by_cases hp : codeV (charL[k]'hlt).toNat = m
      · exfalso
        have HR := rankM_hit hlt HNO.out hp
        have h2 := HM.out
        unfold legalM at h2
        rw [HR] at h2
        simp at h2
      · have HP := Lib.hid (any_take_succ (p := fun c : UInt8 => codeV c.toNat == m) (l := charL) hlt HNO.out (by simpa using hp))
        have e1 := beq_f hp
        clear hp
        go_wp2_with fail
        refine (l03Code_ch k hlt _).mono ?_; rintro e w1 ⟨rfl, rfl⟩
        go_wp2
        go_round
        case rel => exact ⟨k + 1, by omega, by go_num, HP.out⟩
        case measure => simp [intOf]; omega
    · obtain rfl : k = 40 := by omega
      go_wp2
      go_ret2
      exact ⟨rfl, rfl⟩

theorem rankC_hit {c : UInt8} {k : Nat} (hk : k < 40) (h : (charL.take k).any (fun x : UInt8 => x == c) = false) (hp : charL[k]'hk = c) : rankC c = k :=
  idxP_some (p := fun x : UInt8 => x == c) hk h (by simpa using hp)
theorem u8_ne {a b : UInt8} (h : ¬ a = b) : ¬ ((a.toNat : Int) = (b.toNat : Int)) := fun e => h (UInt8.toNat_inj.1 (by omega))
set_option maxHeartbeats 2000000 in
theorem l03Rank_any (c : UInt8) (n : Int) (hn : n = (c.toNat : Int)) (w : World) :
    Calls Try.prog 128 #[.int .u8 n] w fun e w' => e = .returned (.int .i64 (rankC c)) ∧ w = w' := by
  have HN := Lib.hid hn
  clear hn
  go_enter Try.func128, Try.ntmps128
  go_wp2_with fail
  refine (l03Order_any _).mono ?_; rintro e w1 ⟨rfl, rfl⟩
  go_wp2
  go_loop [4] (fun i => ∃ k : Nat, k ≤ 40 ∧ i = .int .i64 k ∧ (charL.take k).any (fun x : UInt8 => x == c) = false) (fun i => 40 - (intOf i).toNat)
  case atStart => exact ⟨0, by omega, rfl, rfl⟩
  case round =>
    obtain ⟨k, hk, rfl, hno⟩ := hrel
    have HNO := Lib.hid hno
    clear hno
    by_cases hlt : k < 40
    · have HB := Lib.hid (charB_at k hlt)
      by_cases hp : charL[k]'hlt = c
      · have HR := Lib.hid (rankC_hit hlt HNO.out hp)
        have e1 : (((charB[k]'(by exact hlt)).toNat : Int) == n) = true := beq_t (by rw [HB.out, hp, HN.out])
        clear hp
        go_wp2
        go_ret
        exact ⟨ret_int HR.out.symm, rfl⟩
      · have HP := Lib.hid (any_take_succ (p := fun x : UInt8 => x == c) (l := charL) hlt HNO.out (by simpa using hp))
        have e1 : (((charB[k]'(by exact hlt)).toNat : Int) == n) = false := beq_f (by rw [HB.out, HN.out]; exact u8_ne hp)
        clear hp
        go_wp2
        go_round
        case rel => exact ⟨k + 1, by omega, by go_num, HP.out⟩
        case measure => simp [intOf]; omega
    · obtain rfl : k = 40 := by omega
      have HR := Lib.hid (show rankC c = -1 from idxP_none (any_take_all (l := charL) hlt HNO.out))
      go_wp2
      go_ret
      exact ⟨ret_int HR.out.symm, rfl⟩
theorem l03Rank_q (c : UInt8) (n x : Int) (hn : n = (c.toNat : Int)) (hx : x = rankC c) (w : World) :
    Calls Try.prog 128 #[.int .u8 n] w fun e w' => e = .returned (.int .i64 x) ∧ w = w' := by
  subst hx
  exact l03Rank_any c n hn w

/-- The bytes of a text. -/
def byt (s : ByteArray) : List UInt8 := s.data.toList
theorem byt_bs (s : List UInt8) : byt (bs_ s) = s := rfl
theorem byt_size (s : ByteArray) : (byt s).length = s.size := by simp [byt]
theorem byt_at (s : ByteArray) (k : Nat) (h : k < s.size) : (byt s)[k]'(by rw [byt_size]; exact h) = s[k] := rfl
theorem take_eq_succ {l m : List Int} {k : Nat} (h : l.take k = m.take k) (h1 : k < l.length) (h2 : k < m.length) (e : l[k] = m[k]) : l.take (k + 1) = m.take (k + 1) := by
  rw [List.take_succ_eq_append_getElem h1, List.take_succ_eq_append_getElem h2, h, e]
set_option maxHeartbeats 2000000 in
theorem l03Compare_any (a b : ByteArray) (w : World) (hab : a.size = b.size) (hl : a.size ≤ 1048576) :
    Calls Try.prog 92 #[.string a, .string b] w fun e w' => e = .returned (.int .i64 (cmpT (byt a) (byt b))) ∧ w = w' := by
  have HAB := Lib.hid hab
  have HLA := Lib.hid (show ((byt a).map rankC).length = a.size by rw [List.length_map, byt_size])
  have HLB := Lib.hid (show ((byt b).map rankC).length = b.size by rw [List.length_map, byt_size])
  have hba : a.size ≤ b.size := by omega
  have hC := Lib.hid (show cmpT (byt a) (byt b) = cmpN ((byt a).map rankC) ((byt b).map rankC) from rfl)
  clear hab
  go_enter Try.func92, Try.ntmps92
  go_wp2
  go_loop [5] (fun i => ∃ k : Nat, k ≤ a.size ∧ i = .int .i64 k ∧ ((byt a).map rankC).take k = ((byt b).map rankC).take k) (fun i => a.size - (intOf i).toNat)
  case atStart => exact ⟨0, by omega, rfl, rfl⟩
  case round =>
    obtain ⟨k, hk, rfl, hsame⟩ := hrel
    have HS := Lib.hid hsame
    clear hsame
    by_cases hlt : k < a.size
    · have hltb : k < b.size := by omega
      obtain ⟨x, hx⟩ : ∃ x, x = rankC a[k] := ⟨_, rfl⟩
      obtain ⟨y, hy⟩ : ∃ y, y = rankC b[k] := ⟨_, rfl⟩
      have hka : k < ((byt a).map rankC).length := by rw [HLA.out]; exact hlt
      have hkb : k < ((byt b).map rankC).length := by rw [HLB.out]; exact hltb
      have HX := Lib.hid hx
      have HY := Lib.hid hy
      have HXE := Lib.hid (show ((byt a).map rankC)[k] = x by rw [hx, List.getElem_map, byt_at a k hlt])
      have HYE := Lib.hid (show ((byt b).map rankC)[k] = y by rw [hy, List.getElem_map, byt_at b k hltb])
      have HAT := Lib.hid (cmpN_at HS.out hka hkb)
      have HT := Lib.hid (take_eq_succ HS.out hka hkb)
      clear hx hy
      go_wp2_with fail
      refine (l03Rank_q a[k] _ x rfl HX.out _).mono ?_; rintro e w1 ⟨rfl, rfl⟩
      go_wp2_with fail
      refine (l03Rank_q b[k] _ y rfl HY.out _).mono ?_; rintro e w1 ⟨rfl, rfl⟩
      by_cases h1 : x < y
      · have HR := Lib.hid (HAT.out.1 (by rw [HXE.out, HYE.out]; exact h1))
        go_wp2
        go_ret
        exact ⟨ret_int (by rw [hC.out, HR.out]), rfl⟩
      · by_cases h2 : y < x
        · have HR := Lib.hid (HAT.out.2 (by rw [HXE.out, HYE.out]; exact h2))
          go_wp2
          go_ret
          exact ⟨ret_int (by rw [hC.out, HR.out]), rfl⟩
        · have HE := Lib.hid (HT.out (by rw [HXE.out, HYE.out]; omega))
          go_wp2
          go_round
          case rel => exact ⟨k + 1, by omega, by go_num, HE.out⟩
          case measure => simp [intOf]; omega
    · have HZ := Lib.hid (cmpN_same HS.out (by rw [HLA.out]; omega) (by rw [HLA.out, HLB.out]; exact HAB.out))
      go_wp2
      go_ret
      exact ⟨ret_int (by rw [hC.out, HZ.out]), rfl⟩
theorem l03Compare_l (s t : List UInt8) (w : World) (hst : s.length = t.length) (hl : s.length ≤ 1048576) :
    Calls Try.prog 92 #[.string (bs_ s), .string (bs_ t)] w fun e w' => e = .returned (.int .i64 (cmpT s t)) ∧ w = w' :=
  l03Compare_any (bs_ s) (bs_ t) w hst hl

set_option maxHeartbeats 4000000 in
theorem compareHoles_any (n m : Nat) (A B : Option Addr) (c d : Nat) (xs ys : List Int) (w : World) (hn : xs.length = n) (hm : ys.length = m) (hnm : n = m) (ha : Rd w w.heap.size 1 A n (ints xs)) (hb : Rd w w.heap.size 1 B m (ints ys)) (hl : n ≤ 1048576) :
    Calls Try.prog 133 #[.slice A n c, .slice B m d] w fun e w' => e = .returned (.int .i64 (cmpR xs ys)) ∧ Below w.heap.size w w' := by
  have HN := Lib.hid hn
  have HM := Lib.hid hm
  have HLA := Lib.hid (show (xs.map rankM).length = n by rw [List.length_map, hn])
  have HLB := Lib.hid (show (ys.map rankM).length = m by rw [List.length_map, hm])
  have HNM := Lib.hid hnm
  have hmn : n ≤ m := by omega
  have hC := Lib.hid (show cmpR xs ys = cmpN (xs.map rankM) (ys.map rankM) from rfl)
  clear hn hm hnm
  go_enter Try.func133, Try.ntmps133
  go_wp2
  go_loopw [10] (fun i wr => ∃ k : Nat, k ≤ n ∧ i = .int .i64 k ∧ (xs.map rankM).take k = (ys.map rankM).take k ∧ Below w.heap.size w wr) (fun i _ => n - (intOf i).toNat)
  case atStart => exact ⟨0, by omega, rfl, rfl, b0 _⟩
  case round =>
    obtain ⟨k, hk, rfl, hsame, hbw⟩ := hrel
    have HS := Lib.hid hsame
    clear hsame
    by_cases hlt : k < n
    · have hltb : k < m := by omega
      have hkx : k < xs.length := by rw [HN.out]; exact hlt
      have hky : k < ys.length := by rw [HM.out]; exact hltb
      obtain ⟨b1, o1, hA, hb1, hc1⟩ := ha.at_ hlt
      obtain ⟨b2, o2, hB, hb2, hc2⟩ := hb.at_ hltb
      obtain ⟨u, hu⟩ : ∃ u, u = xs[k] := ⟨_, rfl⟩
      obtain ⟨v, hv⟩ : ∃ v, v = ys[k] := ⟨_, rfl⟩
      have d1 := cell_later hbw (hc1 k _ (ints_get _ k hkx))
      have d2 := cell_later hbw (hc2 k _ (ints_get _ k hky))
      rw [← hu] at d1
      rw [← hv] at d2
      obtain ⟨x, hx⟩ : ∃ x, x = rankM u := ⟨_, rfl⟩
      obtain ⟨y, hy⟩ : ∃ y, y = rankM v := ⟨_, rfl⟩
      have hka : k < (xs.map rankM).length := by rw [HLA.out]; exact hlt
      have hkb : k < (ys.map rankM).length := by rw [HLB.out]; exact hltb
      have HX := Lib.hid hx
      have HY := Lib.hid hy
      have HXE := Lib.hid (show (xs.map rankM)[k] = x by rw [hx, hu, List.getElem_map])
      have HYE := Lib.hid (show (ys.map rankM)[k] = y by rw [hy, hv, List.getElem_map])
      have HAT := Lib.hid (cmpN_at HS.out hka hkb)
      have HT := Lib.hid (take_eq_succ HS.out hka hkb)
      have i1 : (k : Int) < (n : Int) := by omega
      have i2 : (k : Int) < (m : Int) := by omega
      have l1 := fun x : Later wr => lat_cell x d1
      have l2 := fun x : Later wr => lat_cell x d2
      subst hA
      subst hB
      clear hx hy hu hv hc1 hc2 ha hb d1 d2
      go_wp2_with fail
      refine wp_region_later (by kernel_rfl) (by kernel_rfl) ?_
      repeat (go_big_quiet_step ((first | (go_at_call_of 147 (Value.int IntKind.i64 u); exact lat_pure (rankOf_q u x _ HX.out)) | (go_at_call_of 147 (Value.int IntKind.i64 v); exact lat_pure (rankOf_q v y _ HY.out)))))
      refine wpQuiet_nil ?_
      intro w4 hb4
      have T4 := bs hbw hb4
      clear hbw hb4
      by_cases h1 : x < y
      · have HR := Lib.hid (HAT.out.1 (by rw [HXE.out, HYE.out]; exact h1))
        go_wp2
        go_ret
        exact ⟨ret_int (by rw [hC.out, HR.out]), T4⟩
      · by_cases h2 : y < x
        · have HR := Lib.hid (HAT.out.2 (by rw [HXE.out, HYE.out]; exact h2))
          go_wp2
          go_ret
          exact ⟨ret_int (by rw [hC.out, HR.out]), T4⟩
        · have HE := Lib.hid (HT.out (by rw [HXE.out, HYE.out]; omega))
          go_wp2
          go_roundw
          case rel => exact ⟨k + 1, by omega, by go_num, HE.out, T4⟩
          case measure => simp [intOf]; omega
    · have HZ := Lib.hid (cmpN_same HS.out (by rw [HLA.out]; omega) (by rw [HLA.out, HLB.out]; exact HNM.out))
      go_wp2
      go_ret
      exact ⟨ret_int (by rw [hC.out, HZ.out]), hbw⟩

theorem hasCharacters1_any (m : Int) (w : World) :
    Calls Try.prog 151 #[.int .i64 m] w fun e w' => e = .returned (.bool (!legalM m)) ∧ Below w.heap.size w w' := by
  have HR := Lib.hid (show (!legalM m) = decide (rankM m < 0) by unfold legalM; by_cases h : rankM m < 0 <;> simp [h]; omega)
  go_enter Try.func151, Try.ntmps151
  go_wp2_with fail
  refine (rankOf_any m _).mono ?_; rintro e w1 ⟨rfl, rfl⟩
  go_wp2
  go_ret
  exact ⟨ret_bool HR.out.symm, b0 _⟩
theorem hasCharacters_any (n : Nat) (A : Option Addr) (c : Nat) (xs : List Int) (w : World) (hn : xs.length = n) (ha : Rd w w.heap.size 1 A n (ints xs)) (hl : n ≤ 1048576) :
    Calls Try.prog 139 #[.slice A n c] w fun e w' => e = .returned (.bool (legalL xs)) ∧ Below w.heap.size w w' := by
  subst hn
  have hcon := Lib.hid (ContainsFuncInts_any A c xs 151 #[] (fun m => !legalM m) w ha hl Try.call151
      (fun p _ w' _ => by rw [Array.append_empty]; exact hasCharacters1_any p w'))
  have HA := Lib.hid (show (!(xs.any fun m => !legalM m)) = legalL xs by rw [any_not_allI]; simp [legalL])
  obtain ⟨q, hq⟩ : ∃ q, q = xs.any (fun m => !legalM m) := ⟨_, rfl⟩
  rw [← hq] at hcon HA
  clear hq
  go_enter Try.func139, Try.ntmps139
  go_wp2_with fail
  refine hcon.out.mono ?_; rintro e w1 ⟨rfl, hb1⟩
  go_wp2
  go_ret
  exact ⟨ret_bool HA.out, hb1⟩

theorem part_nat (xs : List Int) (i j : Nat) : part xs (i : Int) (j : Int) = (xs.drop i).take (j - i) := rfl
theorem part_len {xs : List Int} {i j : Nat} (hij : i < j) (hj : j ≤ xs.length) : (part xs (i : Int) (j : Int)).length = j - i := by
  rw [part_nat, List.length_take, List.length_drop]
  omega
theorem rd_part {w : World} {B b off : Nat} {xs : List Int} (h : Rd w B 1 (some ⟨b, off, none⟩) xs.length (ints xs)) {i j : Nat} (hij : i < j) (hj : j ≤ xs.length) : Rd w B 1 (some ⟨b, off + i, none⟩) (j - i) (ints (part xs (i : Int) (j : Int))) := by
  obtain ⟨b', off', he, hb, hc⟩ := h.2 (by omega)
  injection he with he
  injection he with he1 he2
  subst he1
  subst he2
  refine ⟨by rw [ints_length, part_len hij hj, Nat.mul_one], fun _ => ⟨b, off + i, rfl, hb, fun k u hu => ?_⟩⟩
  rw [Nat.add_assoc]
  refine hc (i + k) u ?_
  have hk : k < j - i := by
    have := (List.getElem?_eq_some_iff.1 hu).1
    rwa [ints_length, part_len hij hj] at this
  rw [part_nat] at hu
  simp only [ints, List.getElem?_map, List.getElem?_take, List.getElem?_drop, hk, if_true] at hu ⊢
  exact hu
end Go.Proofs.Yteeaeomkpecflaa
