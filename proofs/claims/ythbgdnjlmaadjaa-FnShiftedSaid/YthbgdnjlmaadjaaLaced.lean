/- LacedColumns and LaceColumn in the program and in the reference. -/
import Derived.Test.YthbgdnjlmaadjaaCardFns
namespace Go.Proofs.Ythbgdnjlmaadjaa
open Go.RowKit

def lacedAt (xs : List Int) (k : Nat) : Bool := xs.getD k 0 == 4095
def lacedRes (xs : List Int) : List Int := if cardOk xs = true then colsWhere (lacedAt xs) xs.length else []
def lacedCode (xs : List Int) : Int := if cardOk xs = true then 0 else 1
theorem lacedRes_length (xs : List Int) : (lacedRes xs).length ≤ 20 := by
  unfold lacedRes
  split
  · rename_i h
    have h1 := colsWhere_le (lacedAt xs) xs.length
    have h2 := cardOk_len h
    omega
  · simp

theorem LacedColumns1_any (k p q : Nat) (A : Option Addr) (c : Nat) (xs : List Int) (w : World) (hp : w.cell? ⟨p, q, none⟩ = some (.slice A xs.length c)) (ha : Rd w w.heap.size 1 A xs.length (ints xs)) (hl : xs.length ≤ 1048576) (hk : k < xs.length) :
    Calls Try.prog 108 #[.int .i64 (k : Int), .pointer (some ⟨p, q, none⟩)] w fun e w' => e = .returned (.bool (lacedAt xs k)) ∧ Below w.heap.size w w' := by
  obtain ⟨b, off, rfl, hbb, hcell⟩ := ha.at_ hk
  have h1 := hcell _ _ (ints_get xs k hk)
  have he := Lib.hid (show lacedAt xs k = (xs[k] == 4095) by simp [lacedAt, List.getD, hk])
  clear hcell ha
  go_enter Try.func108, Try.ntmps108
  go_wp2
  go_ret
  exact ⟨ret_bool he.out.symm, b0 _⟩

set_option maxHeartbeats 1000000 in
theorem LacedColumns_any (A : Option Addr) (c : Nat) (xs : List Int) (w : World) (ha : Rd w w.heap.size 1 A xs.length (ints xs)) (hl : xs.length ≤ 1048576) (hc : xs.length ≤ c) :
    Calls Try.prog 34 #[.agg #[.slice A xs.length c]] w fun e w' => ∃ B d, e = .returned (.tuple #[.slice B (lacedRes xs).length d, .int .i64 (lacedCode xs)]) ∧
      w'.ownsRow w.heap.size 2 1 (.slice B (lacedRes xs).length d) (lacedRes xs).length (ints (lacedRes xs)) ∧ Below w.heap.size w w' := by
  rcases Bool.eq_false_or_eq_true (cardOk xs) with hv | hv
  · have hr := Lib.hid (show lacedRes xs = colsWhere (lacedAt xs) xs.length by unfold lacedRes; rw [if_pos hv])
    have hcd := Lib.hid (show lacedCode xs = 0 by unfold lacedCode; rw [if_pos hv])
    go_enter Try.func34, Try.ntmps34
    go_wp2_with fail
    refine (ValidCard_any _ _ _ _ (ha.a1 _) hl).mono ?_; rintro e w1 ⟨rfl, hb1⟩
    have k1 : w1.cell? ⟨w.heap.size, 0, none⟩ = some (.slice A xs.length c) := cell_later hb1 (by simp)
    have T1 : Below w.heap.size w w1 := bs (ba (b0 _) _) hb1
    go_wp2_with fail
    refine (columns_any _ _ _ _ hl).mono ?_; rintro e w2 ⟨rfl, hb2⟩
    have k2 : w2.cell? ⟨w.heap.size, 0, none⟩ = some (.slice A xs.length c) := cell_later hb2 k1
    have hz2 := hb2.size
    have hcon := Lib.hid (columnsWhere_any xs.length 108 #[.pointer (some ⟨w.heap.size, 0, none⟩)] (lacedAt xs) w2 hl Try.call108
      (fun k hk w' hb => LacedColumns1_any k _ _ A c xs w' (cell_later hb k2) ((((ha.a1 _).up hb1).up hb2).up hb) hl hk))
    go_wp2_with fail
    refine hcon.out.mono ?_; rintro e w3 ⟨B, d, rfl, ho, hb3⟩
    go_wp2
    go_ret2
    rw [hr.out, hcd.out]
    have z1 := T1.size
    exact ⟨B, d, rfl, own_base ho (by omega), bs (bs T1 hb2) hb3⟩
  · have hr := Lib.hid (show lacedRes xs = [] by unfold lacedRes; rw [if_neg (by simp [hv])])
    have hcd := Lib.hid (show lacedCode xs = 1 by unfold lacedCode; rw [if_neg (by simp [hv])])
    go_enter Try.func34, Try.ntmps34
    go_wp2_with fail
    refine (ValidCard_any _ _ _ _ (ha.a1 _) hl).mono ?_; rintro e w1 ⟨rfl, hb1⟩
    go_wp2
    go_ret2
    rw [hr.out, hcd.out]
    exact ⟨none, 0, rfl, World.ownsRow_nil _ _ _ _, bs (ba (b0 _) _) hb1⟩

set_option maxHeartbeats 1000000 in
theorem spLacedColumns_any (A : Option Addr) (c : Nat) (xs : List Int) (w : World) (ha : Rd w w.heap.size 1 A xs.length (ints xs)) (hl : xs.length ≤ 1048576) (hc : xs.length ≤ c) :
    Calls Try.prog 35 #[.agg #[.slice A xs.length c]] w fun e w' => ∃ B d, e = .returned (.tuple #[.slice B (lacedRes xs).length d, .int .i64 (lacedCode xs)]) ∧
      w'.ownsRow w.heap.size 2 1 (.slice B (lacedRes xs).length d) (lacedRes xs).length (ints (lacedRes xs)) ∧ Below w.heap.size w w' := by
  obtain ⟨i0, hi, hz0, hz1, hz2⟩ := info_parts info_i64
  rcases Bool.eq_false_or_eq_true (cardOk xs) with hv | hv
  · have hr := Lib.hid (show lacedRes xs = colsWhere (lacedAt xs) xs.length by unfold lacedRes; rw [if_pos hv])
    have hcd := Lib.hid (show lacedCode xs = 0 by unfold lacedCode; rw [if_pos hv])
    go_enter Try.func35, Try.ntmps35
    go_wp2_with fail
    refine (l02Ok_any _ _ A c xs _ (by simp) (ha.a1 _) hl).mono ?_; rintro e w1 ⟨rfl, hb1⟩
    have k1 : w1.cell? ⟨w.heap.size, 0, none⟩ = some (.slice A xs.length c) := cell_later hb1 (by simp)
    have T1 : Below w.heap.size w w1 := bs (ba (b0 _) _) hb1
    replace ha := ha.below T1
    have z1 := hb1.size
    simp only [World.size_alloc] at z1
    go_wp2
    clear hv
    go_loopw [4, 5] (fun v q wr => ∃ (k : Nat) (B : Option Addr) (m d : Nat), k ≤ xs.length ∧ q = .int .i64 k ∧ v = .slice B m d ∧ m = (colsWhere (lacedAt xs) k).length ∧ wr.ownsRow w1.heap.size 2 1 (.slice B m d) m (ints (colsWhere (lacedAt xs) k)) ∧ Below w1.heap.size w1 wr)
      (fun _ q _ => xs.length - (intOf q).toNat)
    case atStart => exact ⟨0, _, 0, 0, Nat.zero_le _, by go_num, rfl, rfl, own_lit w1 #[] 0 rfl (Nat.le_refl _) (by omega) rfl, ba (b0 _) _⟩
    case round =>
      obtain ⟨k, B, m, d, hk, rfl, rfl, hm, hown, hbw⟩ := hrel
      have HM := Lib.hid hm
      have hmle : m ≤ 1048576 := by have := colsWhere_le (lacedAt xs) k; omega
      clear hm
      have hsz := hbw.size
      replace k1 := cell_later hbw k1
      by_cases hlt : k < xs.length
      · obtain ⟨b, off, rfl, hbb, hcell⟩ := ha.at_ hlt
        have h1 := (hbw.cell (p := ⟨b, off + k, none⟩) (by simp only; omega)).trans (hcell _ _ (ints_get xs k hlt))
        clear hcell
        by_cases h4 : xs[k] = 4095
        · have HK := Lib.hid (colsWhere_yes (show lacedAt xs k = true by simp [lacedAt, List.getD, hlt, h4]))
          have hq : (xs[k] == 4095) = true := by simpa using h4
          clear h4
          go_wp2_with (at_builtin; refine wpList_ap rfl (.tmp 22) (.tmp 24) 24 rfl w1.heap.size 2 i0 _ 1 8 Try.underlying24 hi hz0 hz1 hz2 rfl (by omega) B m d _ rfl wr hown 1 _ _ rfl rfl rfl (ints_one [(k : Int)]) (by omega) (by omega) (by omega) (by omega) ?_; intro g cap w2 hown2 hb2 _ _ _)
          go_roundw
          case rel => exact ⟨k + 1, _, _, _, by omega, by go_num, rfl, by rw [HK.out, List.length_append, ← HM.out]; rfl, by rw [HK.out, ints_snoc]; exact hown2, hbw.trans hb2⟩
          case measure => simp [intOf]; omega
        · have HK := Lib.hid (colsWhere_no (show lacedAt xs k = false by simp [lacedAt, List.getD, hlt, h4]))
          have hq : (xs[k] == 4095) = false := by simpa using h4
          clear h4
          go_wp2
          go_roundw
          case rel => exact ⟨k + 1, B, m, d, by omega, by go_num, rfl, by rw [HK.out]; exact HM.out, by rw [HK.out]; exact hown, hbw⟩
          case measure => simp [intOf]; omega
      · obtain rfl : k = xs.length := by omega
        go_wp2
        go_ret2
        have hm := HM.out
        subst hm
        rw [hr.out, hcd.out]
        exact ⟨B, d, rfl, own_base hown (by omega), bs T1 hbw⟩
  · have hr := Lib.hid (show lacedRes xs = [] by unfold lacedRes; rw [if_neg (by simp [hv])])
    have hcd := Lib.hid (show lacedCode xs = 1 by unfold lacedCode; rw [if_neg (by simp [hv])])
    go_enter Try.func35, Try.ntmps35
    go_wp2_with fail
    refine (l02Ok_any _ _ A c xs _ (by simp) (ha.a1 _) hl).mono ?_; rintro e w1 ⟨rfl, hb1⟩
    go_wp2
    go_ret2
    rw [hr.out, hcd.out]
    exact ⟨none, 0, rfl, World.ownsRow_nil _ _ _ _, bs (ba (b0 _) _) hb1⟩
end Go.Proofs.Ythbgdnjlmaadjaa
