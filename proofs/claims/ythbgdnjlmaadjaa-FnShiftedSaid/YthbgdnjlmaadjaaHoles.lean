/- AddedHoles and LostHoles in the program and in the reference. -/
import Derived.Test.YthbgdnjlmaadjaaNearAll
namespace Go.Proofs.Ythbgdnjlmaadjaa
open Go.RowKit

def moreAt (xs ys : List Int) (k : Nat) : Bool := bits .andNot .i64 (xs.getD k 0) (ys.getD k 0) != 0
def addedRes (xs ys : List Int) : List Int := if pairC xs ys = 0 then colsWhere (moreAt ys xs) xs.length else []
def lostRes (xs ys : List Int) : List Int := if pairC xs ys = 0 then colsWhere (moreAt xs ys) xs.length else []
theorem addedRes_swap (xs ys : List Int) : addedRes ys xs = lostRes xs ys := by
  unfold addedRes lostRes
  rw [pairC_swap ys xs]
  by_cases h : pairC xs ys = 0
  · rw [if_pos h, if_pos h, (pairC_zero h).2.2]
  · rw [if_neg h, if_neg h]
theorem addedRes_length (xs ys : List Int) : (addedRes xs ys).length ≤ 20 := by
  unfold addedRes
  split
  · rename_i h
    have h1 := colsWhere_le (moreAt ys xs) xs.length
    have h2 := cardOk_len (pairC_zero h).1
    omega
  · simp
theorem lostRes_length (xs ys : List Int) : (lostRes xs ys).length ≤ 20 := by
  rw [← addedRes_swap]
  exact addedRes_length ys xs

theorem AddedHoles1_any (k p q p' q' : Nat) (A A' : Option Addr) (c c' : Nat) (xs ys : List Int) (w : World) (hp : w.cell? ⟨p, q, none⟩ = some (.slice A xs.length c)) (hp' : w.cell? ⟨p', q', none⟩ = some (.slice A' ys.length c')) (ha : Rd w w.heap.size 1 A xs.length (ints xs)) (hb : Rd w w.heap.size 1 A' ys.length (ints ys)) (hl : xs.length ≤ 1048576) (hl' : ys.length ≤ 1048576) (hk : k < xs.length) (hk' : k < ys.length) :
    Calls Try.prog 83 #[.int .i64 (k : Int), .pointer (some ⟨p, q, none⟩), .pointer (some ⟨p', q', none⟩)] w fun e w' => e = .returned (.bool (moreAt xs ys k)) ∧ Below w.heap.size w w' := by
  obtain ⟨b, off, rfl, hbb, hcell⟩ := ha.at_ hk
  obtain ⟨b', off', rfl, hbb', hcell'⟩ := hb.at_ hk'
  have h1 := hcell _ _ (ints_get xs k hk)
  have h2 := hcell' _ _ (ints_get ys k hk')
  have he := Lib.hid (show moreAt xs ys k = (bits .andNot .i64 xs[k] ys[k] != 0) by simp [moreAt, List.getD, hk, hk'])
  clear hcell ha hcell' hb
  go_enter Try.func83, Try.ntmps83
  go_wp2
  go_quiet (fail)
  go_wp2
  go_ret
  exact ⟨ret_bool he.out.symm, below_drewN (b0 _) _⟩

set_option maxHeartbeats 1000000 in
theorem l06More_any (p q p' q' : Nat) (A A' : Option Addr) (c c' : Nat) (xs ys : List Int) (w : World) (hp : w.cell? ⟨p, q, none⟩ = some (.slice A xs.length c)) (hp' : w.cell? ⟨p', q', none⟩ = some (.slice A' ys.length c')) (ha : Rd w w.heap.size 1 A xs.length (ints xs)) (hb : Rd w w.heap.size 1 A' ys.length (ints ys)) (hl : xs.length ≤ 1048576) (he : xs.length = ys.length) :
    Calls Try.prog 84 #[.pointer (some ⟨p, q, none⟩), .pointer (some ⟨p', q', none⟩)] w fun e w' => ∃ B d, e = .returned (.slice B (colsWhere (moreAt xs ys) xs.length).length d) ∧
      w'.ownsRow w.heap.size 2 1 (.slice B (colsWhere (moreAt xs ys) xs.length).length d) (colsWhere (moreAt xs ys) xs.length).length (ints (colsWhere (moreAt xs ys) xs.length)) ∧ Below w.heap.size w w' := by
  obtain ⟨i0, hi, hz0, hz1, hz2⟩ := info_parts info_i64
  have HE := Lib.hid he
  clear he
  go_enter Try.func84, Try.ntmps84
  go_wp2
  go_loopw [5, 6] (fun v q wr => ∃ (k : Nat) (B : Option Addr) (m d : Nat), k ≤ xs.length ∧ q = .int .i64 k ∧ v = .slice B m d ∧ m = (colsWhere (moreAt xs ys) k).length ∧ wr.ownsRow w.heap.size 2 1 (.slice B m d) m (ints (colsWhere (moreAt xs ys) k)) ∧ Below w.heap.size w wr)
    (fun _ q _ => xs.length - (intOf q).toNat)
  case atStart => exact ⟨0, _, 0, 0, Nat.zero_le _, by go_num, rfl, rfl, own_lit w #[] 0 rfl (Nat.le_refl _) (by omega) rfl, ba (b0 _) _⟩
  case round =>
    obtain ⟨k, B, m, d, hk, rfl, rfl, hm, hown, hbw⟩ := hrel
    have HM := Lib.hid hm
    have hmle : m ≤ 1048576 := by have := colsWhere_le (moreAt xs ys) k; omega
    clear hm
    have hsz := hbw.size
    replace hp := cell_later hbw hp
    replace hp' := cell_later hbw hp'
    by_cases hlt : k < xs.length
    · have hlt' : k < ys.length := by have := HE.out; omega
      obtain ⟨b, off, rfl, hbb, hcell⟩ := ha.at_ hlt
      obtain ⟨b', off', rfl, hbb', hcell'⟩ := hb.at_ hlt'
      have h1 := (hbw.cell (p := ⟨b, off + k, none⟩) (by simp only; omega)).trans (hcell _ _ (ints_get xs k hlt))
      have h2 := (hbw.cell (p := ⟨b', off' + k, none⟩) (by simp only; omega)).trans (hcell' _ _ (ints_get ys k hlt'))
      have hq0 := Lib.hid (show moreAt xs ys k = (bits .andNot .i64 xs[k] ys[k] != 0) by simp [moreAt, List.getD, hlt, hlt'])
      clear hcell ha hcell' hb
      rcases Bool.eq_false_or_eq_true (moreAt xs ys k) with h4 | h4
      · have HK := Lib.hid (colsWhere_yes h4)
        have hq : (bits .andNot .i64 xs[k] ys[k] != 0) = true := hq0.out.symm.trans h4
        clear h4
        go_wp2
        go_quiet (fail)
        generalize hnq : wr.drewN _ = wj
        have hown' : wj.ownsRow w.heap.size 2 1 (.slice B m d) m (ints (colsWhere (moreAt xs ys) k)) := by rw [← hnq]; exact hown
        have hbj : Below w.heap.size w wj := by rw [← hnq]; exact below_drewN hbw _
        have hsj := hbj.size
        clear hnq hown hbw
        go_wp2_with (at_builtin; refine wpList_ap rfl (.tmp 33) (.tmp 35) 24 rfl w.heap.size 2 i0 _ 1 8 Try.underlying24 hi hz0 hz1 hz2 rfl (by omega) B m d _ rfl wj hown' 1 _ _ rfl rfl rfl (ints_one [(k : Int)]) (by omega) (by omega) (by omega) (by omega) ?_; intro g cap w2 hown2 hb2 _ _ _)
        go_roundw
        case rel => exact ⟨k + 1, _, _, _, by omega, by go_num, rfl, by rw [HK.out, List.length_append, ← HM.out]; rfl, by rw [HK.out, ints_snoc]; exact hown2, hbj.trans hb2⟩
        case measure => simp [intOf]; omega
      · have HK := Lib.hid (colsWhere_no h4)
        have hq : (bits .andNot .i64 xs[k] ys[k] != 0) = false := hq0.out.symm.trans h4
        clear h4
        go_wp2
        go_quiet (fail)
        go_wp2
        go_roundw
        case rel => exact ⟨k + 1, B, m, d, by omega, by go_num, rfl, by rw [HK.out]; exact HM.out, by rw [HK.out]; exact hown, below_drewN hbw _⟩
        case measure => simp [intOf]; omega
    · obtain rfl : k = xs.length := by omega
      go_wp2
      go_ret
      have hm := HM.out
      subst hm
      exact ⟨B, d, rfl, hown, hbw⟩

set_option maxHeartbeats 1000000 in
theorem AddedHoles_any (A : Option Addr) (c : Nat) (xs : List Int) (A' : Option Addr) (c' : Nat) (ys : List Int) (w : World) (ha : Rd w w.heap.size 1 A xs.length (ints xs)) (hl : xs.length ≤ 1048576) (hc : xs.length ≤ c) (hb : Rd w w.heap.size 1 A' ys.length (ints ys)) (hl' : ys.length ≤ 1048576) (hc' : ys.length ≤ c') :
    Calls Try.prog 11 #[.agg #[.slice A xs.length c], .agg #[.slice A' ys.length c']] w fun e w' => ∃ B d, e = .returned (.tuple #[.slice B (addedRes xs ys).length d, .int .i64 (pairC xs ys)]) ∧
      w'.ownsRow w.heap.size 2 1 (.slice B (addedRes xs ys).length d) (addedRes xs ys).length (ints (addedRes xs ys)) ∧ Below w.heap.size w w' := by
  have T0 : Below w.heap.size w ((w.alloc (.cells #[.slice A xs.length c] 26)).alloc (.cells #[.slice A' ys.length c'] 26)) := ba (ba (b0 _) _) _
  replace ha := (ha.a1 (.cells #[.slice A xs.length c] 26)).a1 (.cells #[.slice A' ys.length c'] 26)
  replace hb := (hb.a1 (.cells #[.slice A xs.length c] 26)).a1 (.cells #[.slice A' ys.length c'] 26)
  by_cases hz : pairC xs ys = 0
  · obtain ⟨hv, hv', hee⟩ := pairC_zero hz
    have hr := Lib.hid (show addedRes xs ys = colsWhere (moreAt ys xs) xs.length by unfold addedRes; rw [if_pos hz])
    have HEE := Lib.hid hee
    clear hee hv hv'
    go_enter Try.func11, Try.ntmps11
    go_wp2_with fail
    refine (pairCode_any _ _ _ _ xs ys _ ha hb hl hl').mono ?_; rintro e w1 ⟨rfl, hb1⟩
    have k1 : w1.cell? ⟨w.heap.size, 0, none⟩ = some (.slice A xs.length c) := cell_later hb1 (by simp)
    have k2 : w1.cell? ⟨w.heap.size + 1, 0, none⟩ = some (.slice A' ys.length c') := cell_later hb1 (by simp)
    have T1 : Below w.heap.size w w1 := bs T0 hb1
    go_wp2_with fail
    refine (columns_any _ _ _ _ hl).mono ?_; rintro e w2 ⟨rfl, hb2⟩
    replace k1 := cell_later hb2 k1
    replace k2 := cell_later hb2 k2
    have hcon := Lib.hid (columnsWhere_any xs.length 83 #[.pointer (some ⟨w.heap.size + 1, 0, none⟩), .pointer (some ⟨w.heap.size, 0, none⟩)] (moreAt ys xs) w2 hl Try.call83
      (fun k hk w' hbk => AddedHoles1_any k _ _ _ _ A' A c' c ys xs w' (cell_later hbk k2) (cell_later hbk k1) (((hb.up hb1).up hb2).up hbk) (((ha.up hb1).up hb2).up hbk) hl' hl (by have := HEE.out; omega) hk))
    go_wp2_with fail
    refine hcon.out.mono ?_; rintro e w3 ⟨B, d, rfl, ho, hb3⟩
    have z1 := T1.size
    have z2 := hb2.size
    go_wp2
    go_ret2
    rw [hr.out, hz]
    exact ⟨B, d, rfl, own_base ho (by omega), bs (bs T1 hb2) hb3⟩
  · have hr := Lib.hid (show addedRes xs ys = [] by unfold addedRes; rw [if_neg hz])
    go_enter Try.func11, Try.ntmps11
    go_wp2_with fail
    refine (pairCode_any _ _ _ _ xs ys _ ha hb hl hl').mono ?_; rintro e w1 ⟨rfl, hb1⟩
    have T1 : Below w.heap.size w w1 := bs T0 hb1
    go_wp2
    go_ret2
    rw [hr.out]
    exact ⟨none, 0, rfl, World.ownsRow_nil _ _ _ _, T1⟩
theorem LostHoles_any (A : Option Addr) (c : Nat) (xs : List Int) (A' : Option Addr) (c' : Nat) (ys : List Int) (w : World) (ha : Rd w w.heap.size 1 A xs.length (ints xs)) (hl : xs.length ≤ 1048576) (hc : xs.length ≤ c) (hb : Rd w w.heap.size 1 A' ys.length (ints ys)) (hl' : ys.length ≤ 1048576) (hc' : ys.length ≤ c') :
    Calls Try.prog 13 #[.agg #[.slice A xs.length c], .agg #[.slice A' ys.length c']] w fun e w' => ∃ B d, e = .returned (.tuple #[.slice B (lostRes xs ys).length d, .int .i64 (pairC xs ys)]) ∧
      w'.ownsRow w.heap.size 2 1 (.slice B (lostRes xs ys).length d) (lostRes xs ys).length (ints (lostRes xs ys)) ∧ Below w.heap.size w w' := by
  have hr := Lib.hid (addedRes_swap xs ys)
  have hs := Lib.hid (pairC_swap xs ys)
  go_enter Try.func13, Try.ntmps13
  go_wp2_with fail
  refine (AddedHoles_any A' c' ys A c xs _ ((hb.a1 _).a1 _) hl' hc' ((ha.a1 _).a1 _) hl hc).mono ?_; rintro e w1 ⟨B, d, rfl, ho, hb1⟩
  have z1 := hb1.size
  simp only [World.size_alloc] at z1
  go_wp2
  go_ret2
  rw [hs.out, ← hr.out]
  exact ⟨B, d, rfl, own_base ho (by simp; omega), bs (ba (ba (b0 _) _) _) hb1⟩

set_option maxHeartbeats 1000000 in
theorem spAddedHoles_any (A : Option Addr) (c : Nat) (xs : List Int) (A' : Option Addr) (c' : Nat) (ys : List Int) (w : World) (ha : Rd w w.heap.size 1 A xs.length (ints xs)) (hl : xs.length ≤ 1048576) (hc : xs.length ≤ c) (hb : Rd w w.heap.size 1 A' ys.length (ints ys)) (hl' : ys.length ≤ 1048576) (hc' : ys.length ≤ c') :
    Calls Try.prog 12 #[.agg #[.slice A xs.length c], .agg #[.slice A' ys.length c']] w fun e w' => ∃ B d, e = .returned (.tuple #[.slice B (addedRes xs ys).length d, .int .i64 (pairC xs ys)]) ∧
      w'.ownsRow w.heap.size 2 1 (.slice B (addedRes xs ys).length d) (addedRes xs ys).length (ints (addedRes xs ys)) ∧ Below w.heap.size w w' := by
  have T0 : Below w.heap.size w ((w.alloc (.cells #[.slice A xs.length c] 26)).alloc (.cells #[.slice A' ys.length c'] 26)) := ba (ba (b0 _) _) _
  replace ha := (ha.a1 (.cells #[.slice A xs.length c] 26)).a1 (.cells #[.slice A' ys.length c'] 26)
  replace hb := (hb.a1 (.cells #[.slice A xs.length c] 26)).a1 (.cells #[.slice A' ys.length c'] 26)
  by_cases hz : pairC xs ys = 0
  · obtain ⟨hv, hv', hee⟩ := pairC_zero hz
    have hr := Lib.hid (show addedRes xs ys = colsWhere (moreAt ys xs) ys.length by unfold addedRes; rw [if_pos hz]; rw [hee])
    have HEE := Lib.hid hee
    clear hee hv hv'
    go_enter Try.func12, Try.ntmps12
    go_wp2_with fail
    refine (l06Two_any _ _ _ _ A A' c c' xs ys _ (by simp) (by simp) ha hb hl hl').mono ?_; rintro e w1 ⟨rfl, hb1⟩
    have k1 : w1.cell? ⟨w.heap.size, 0, none⟩ = some (.slice A xs.length c) := cell_later hb1 (by simp)
    have k2 : w1.cell? ⟨w.heap.size + 1, 0, none⟩ = some (.slice A' ys.length c') := cell_later hb1 (by simp)
    have T1 : Below w.heap.size w w1 := bs T0 hb1
    have hcon := Lib.hid ((l06More_any _ _ _ _ A' A c' c ys xs _ k2 k1 (hb.up hb1) (ha.up hb1) hl' HEE.out.symm))
    go_wp2_with fail
    refine hcon.out.mono ?_; rintro e w3 ⟨B, d, rfl, ho, hb3⟩
    have z1 := T1.size
    go_wp2
    go_ret2
    rw [hr.out, hz]
    exact ⟨B, d, rfl, own_base ho (by omega), bs T1 hb3⟩
  · have hr := Lib.hid (show addedRes xs ys = [] by unfold addedRes; rw [if_neg hz])
    go_enter Try.func12, Try.ntmps12
    go_wp2_with fail
    refine (l06Two_any _ _ _ _ A A' c c' xs ys _ (by simp) (by simp) ha hb hl hl').mono ?_; rintro e w1 ⟨rfl, hb1⟩
    have T1 : Below w.heap.size w w1 := bs T0 hb1
    go_wp2
    go_ret2
    rw [hr.out]
    exact ⟨none, 0, rfl, World.ownsRow_nil _ _ _ _, T1⟩
set_option maxHeartbeats 1000000 in
theorem spLostHoles_any (A : Option Addr) (c : Nat) (xs : List Int) (A' : Option Addr) (c' : Nat) (ys : List Int) (w : World) (ha : Rd w w.heap.size 1 A xs.length (ints xs)) (hl : xs.length ≤ 1048576) (hc : xs.length ≤ c) (hb : Rd w w.heap.size 1 A' ys.length (ints ys)) (hl' : ys.length ≤ 1048576) (hc' : ys.length ≤ c') :
    Calls Try.prog 14 #[.agg #[.slice A xs.length c], .agg #[.slice A' ys.length c']] w fun e w' => ∃ B d, e = .returned (.tuple #[.slice B (lostRes xs ys).length d, .int .i64 (pairC xs ys)]) ∧
      w'.ownsRow w.heap.size 2 1 (.slice B (lostRes xs ys).length d) (lostRes xs ys).length (ints (lostRes xs ys)) ∧ Below w.heap.size w w' := by
  have T0 : Below w.heap.size w ((w.alloc (.cells #[.slice A xs.length c] 26)).alloc (.cells #[.slice A' ys.length c'] 26)) := ba (ba (b0 _) _) _
  replace ha := (ha.a1 (.cells #[.slice A xs.length c] 26)).a1 (.cells #[.slice A' ys.length c'] 26)
  replace hb := (hb.a1 (.cells #[.slice A xs.length c] 26)).a1 (.cells #[.slice A' ys.length c'] 26)
  by_cases hz : pairC xs ys = 0
  · obtain ⟨hv, hv', hee⟩ := pairC_zero hz
    have hr := Lib.hid (show lostRes xs ys = colsWhere (moreAt xs ys) xs.length by unfold lostRes; rw [if_pos hz])
    have HEE := Lib.hid hee
    clear hee hv hv'
    go_enter Try.func14, Try.ntmps14
    go_wp2_with fail
    refine (l06Two_any _ _ _ _ A A' c c' xs ys _ (by simp) (by simp) ha hb hl hl').mono ?_; rintro e w1 ⟨rfl, hb1⟩
    have k1 : w1.cell? ⟨w.heap.size, 0, none⟩ = some (.slice A xs.length c) := cell_later hb1 (by simp)
    have k2 : w1.cell? ⟨w.heap.size + 1, 0, none⟩ = some (.slice A' ys.length c') := cell_later hb1 (by simp)
    have T1 : Below w.heap.size w w1 := bs T0 hb1
    have hcon := Lib.hid ((l06More_any _ _ _ _ A A' c c' xs ys _ k1 k2 (ha.up hb1) (hb.up hb1) hl HEE.out))
    go_wp2_with fail
    refine hcon.out.mono ?_; rintro e w3 ⟨B, d, rfl, ho, hb3⟩
    have z1 := T1.size
    go_wp2
    go_ret2
    rw [hr.out, hz]
    exact ⟨B, d, rfl, own_base ho (by omega), bs T1 hb3⟩
  · have hr := Lib.hid (show lostRes xs ys = [] by unfold lostRes; rw [if_neg hz])
    go_enter Try.func14, Try.ntmps14
    go_wp2_with fail
    refine (l06Two_any _ _ _ _ A A' c c' xs ys _ (by simp) (by simp) ha hb hl hl').mono ?_; rintro e w1 ⟨rfl, hb1⟩
    have T1 : Below w.heap.size w w1 := bs T0 hb1
    go_wp2
    go_ret2
    rw [hr.out]
    exact ⟨none, 0, rfl, World.ownsRow_nil _ _ _ _, T1⟩
end Go.Proofs.Ythbgdnjlmaadjaa
