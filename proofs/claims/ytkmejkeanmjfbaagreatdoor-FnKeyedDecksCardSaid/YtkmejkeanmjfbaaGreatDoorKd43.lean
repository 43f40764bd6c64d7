/- The draw of a text that is read back. -/
import Derived.Test.YtkmejkeanmjfbaaGreatDoorKd42
import Derived.Test.YtkmejkeanmjfbaaGreatDoorKd40
/-! ### RrDraw -/
namespace Go.Proofs.YtkmejkeanmjfbaaGreatDoor
open Go.RowKit

abbrev sevT : List ByteArray := [⟨#[32]⟩, ⟨#[48]⟩, ⟨#[45]⟩, ⟨#[120]⟩, ⟨#[49]⟩, ⟨#[57]⟩, ⟨#[46]⟩]
abbrev eigT : List ByteArray := [⟨#[]⟩, ⟨#[109]⟩, ⟨#[109, 48]⟩, ⟨#[109, 49, 32, 109, 50]⟩, ⟨#[109, 50, 49]⟩, ⟨#[120, 51]⟩, ⟨#[109, 49, 32, 32, 115, 50]⟩, ⟨#[109, 50, 48, 32, 115, 49]⟩]
theorem sevT_size {z : ByteArray} (h : z ∈ sevT) : z.size ≤ 1 := by
  simp only [sevT, List.mem_cons, List.not_mem_nil, or_false] at h
  rcases h with rfl | rfl | rfl | rfl | rfl | rfl | rfl <;> decide
theorem eigT_size {z : ByteArray} (h : z ∈ eigT) : z.size ≤ 6 := by
  simp only [eigT, List.mem_cons, List.not_mem_nil, or_false] at h
  rcases h with rfl | rfl | rfl | rfl | rfl | rfl | rfl | rfl <;> decide
def SpoP (p K M : Nat) (w : World) (e : Ending) (w' : World) : Prop := ∃ t : ByteArray, t.size ≤ M ∧ e = .returned (.string t) ∧ SrcK w' p (K + 10) ∧ Chg p (p + 1) w w'
set_option maxRecDepth 20000 in
set_option maxHeartbeats 8000000 in
theorem l01Spoil_any (p K : Nat) (t : ByteArray) (w : World) (h : SrcK w p K) (hK : K + 100 < 800000) (hl : t.size ≤ 100) :
    Calls Tryz.prog 60 #[.pointer (some ⟨p, 0, none⟩), .string t] w (SpoP p K 200 w) := by
  have hlt := h.lt
  go_enter Tryz.func60, Tryz.ntmps60
  go_wp2_with fail
  refine (pick_any p K 5 _ h (by omega) (by omega)).mono ?_
  rintro e w1 ⟨x, hx, rfl, hs1, hc1⟩
  have HC1 := Lib.hid hc1
  have z1 := hc1.size
  by_cases h0 : (x : Int) = 0
  · have e0 := beq_t h0
    clear h0
    have hw1 : wrap64 ((t.size : Int) + 1) = ((t.size + 1 : Nat) : Int) := by unfold wrap64; omega
    have hp63 : (t.size : Int) + 1 ≤ 65536 := by omega
    go_wp2_with fail
    refine (pick_any p _ ((t.size : Int) + 1) _ hs1 (by omega) hp63).mono ?_
    rintro e w2 ⟨y, hy, rfl, hs2, hc2⟩
    have hyt : y ≤ t.size := by omega
    have i1 : (y : Int) ≤ (t.size : Int) := by omega
    have i2 : (0 : Int) ≤ (y : Int) := by omega
    have HC2 := Lib.hid (HC1.out.trans hc2)
    have z2 := hc2.size
    clear hc2 hs1 hy hp63 hw1
    go_wp2_with fail
    go_region_law ((go_simp; go_at_call 61; refine (text_any p (K + 2 + 2) _ 7 7 sevT _ ?_ (by omega) rfl (by omega) (by omega) ?_ ?_).mono ?_; (first | exact hs2.later (ba (b0 _) _) | exact (hs2.later (ba (b0 _) _)).drew); exact Rd.own (own_lit w2 #[.string ⟨#[32]⟩, .string ⟨#[48]⟩, .string ⟨#[45]⟩, .string ⟨#[120]⟩, .string ⟨#[49]⟩, .string ⟨#[57]⟩, .string ⟨#[46]⟩] 7 rfl (Nat.le_refl _) (by omega) rfl); (intro gg oo hgg; injection hgg with hgg; injection hgg with hgg; omega); rintro e w5 ⟨z, hz, rfl, hs5, hc5⟩; have hzs := sevT_size hz; have cy : Chg p (p + 1) w w5 := (by first | exact (HC2.out.then (ba (b0 w2) _) (by omega)).trans hc5 | exact ((HC2.out.then (ba (b0 w2) _) (by omega)).drew).trans hc5); have n1 : ¬ 9223372036854775807 < y + z.size := (by omega); have n2 : ¬ 9223372036854775807 < y + z.size + (t.size - y) := (by omega)))
    all_goals
      go_wp2
      go_ret
      refine ⟨t.extract 0 y ++ z ++ t.extract y t.size, ?_, rfl, hs5.more (by omega), cy⟩
      simp only [ByteArray.size_append, ByteArray.size_extract]
      omega
  · have e0 := beq_f h0
    by_cases h1 : (x : Int) = 1
    · have e1 := beq_t h1
      clear h0 h1
      by_cases ht : t.size = 0
      · have e2 := em_t ht
        go_wp2
        go_ret
        exact ⟨t, by omega, rfl, hs1.more (by omega), HC1.out⟩
      · have e2 := em_f ht
        go_wp2_with fail
        refine (pick_any p _ (t.size : Int) _ hs1 (by omega) (by omega)).mono ?_
        rintro e w2 ⟨y, hy, rfl, hs2, hc2⟩
        have hyt : y < t.size := by omega
        have i1 : (y : Int) ≤ (t.size : Int) := by omega
        have i2 : (0 : Int) ≤ (y : Int) := by omega
        obtain ⟨Y, hY⟩ : ∃ Y, Y = y + 1 := ⟨_, rfl⟩
        have hwy : IntKind.i64.wrap ((y : Int) + 1) = (Y : Int) := by rw [IntKind.wrap_i64]; omega
        have hwy2 : wrap64 ((y : Int) + 1) = (Y : Int) := by unfold wrap64; omega
        have i3 : (Y : Int) ≤ (t.size : Int) := by omega
        have n1 : ¬ 9223372036854775807 < min y t.size + (t.size - Y) := by omega
        have HS2 := Lib.hid hs2
        have HC2 := Lib.hid (HC1.out.trans hc2)
        clear hc2 hs1 hs2 hy hY
        go_wp2_with fail
        refine wp_region_later (by kernel_rfl) (by kernel_rfl) ?_
        repeat (go_big_quiet_step (fail))
        refine wpQuiet_nil ?_
        intro wt hbt
        go_wp2
        go_ret
        refine ⟨t.extract 0 y ++ t.extract Y t.size, ?_, rfl, (HS2.out.later hbt).more (by omega), HC2.out.then hbt (by have := HC2.out.size; omega)⟩
        simp only [ByteArray.size_append, ByteArray.size_extract]
        omega
    · have e1 := beq_f h1
      clear h0 h1
      go_wp2
      go_ret
      exact ⟨t, by omega, rfl, hs1.more (by omega), HC1.out⟩
theorem runsT_len {s : ByteArray} (hs : s.size ≤ 21) : (runsT (byt s)).length ≤ 84 := by
  obtain ⟨h1, h2, h3⟩ := runsL_back (byt s)
  have hr : RunP (byt s) (byt s).length (runsL (byt s)) := ⟨by rw [h1, List.take_of_length_le (Nat.le_refl _)], h2, h3, fun h => absurd h (Nat.lt_irrefl _)⟩
  rw [byt_size] at hr
  exact runs_len hr (Nat.le_refl _) hs
def RrdP (w : World) (e : Ending) (w' : World) : Prop := ∃ t : ByteArray, t.size ≤ 200 ∧ e = .returned (.string t) ∧ Below w.heap.size w w'
set_option maxRecDepth 20000 in
set_option maxHeartbeats 8000000 in
theorem DrawReadRuns_any (A : Option Addr) (n c : Nat) (bs0 : List UInt8) (w : World) (ha : Rd w w.heap.size 1 A n (byts bs0)) (hn : n ≤ 1048576) :
    Calls Tryz.prog 17 #[.slice A n c] w (RrdP w) := by
  go_enter Tryz.func17, Tryz.ntmps17
  go_wp2_with fail
  refine (l00From_any A n c bs0 _ ha hn).mono ?_; rintro e w1 ⟨p, hp, rfl, hs1, hb1⟩
  have z1 := hb1.size
  have hlt := hs1.lt
  go_wp2_with fail
  refine (pick_any p 0 12 _ hs1 (by omega) (by omega)).mono ?_
  rintro e w2 ⟨x, hx, rfl, hs2, hc2⟩
  have z2 := hc2.size
  have T2 := hc2.below hb1 (by omega) hb1.size
  obtain ⟨X, hX⟩ : ∃ X : Nat, X = 1 + x := ⟨_, rfl⟩
  have hX12 : X ≤ 12 := by omega
  have hwx : wrap64 (1 + (x : Int)) = (X : Int) := by unfold wrap64; omega
  have hwx2 : (1 : Int) + (x : Int) = (X : Int) := by omega
  clear hc2 hs1 hb1 hx hX
  go_wp2_with fail
  refine (l05Draw_any p _ X _ hs2 (by omega)).mono ?_
  rintro e w3 ⟨u, hu, rfl, hs3, hc3⟩
  have z3 := hc3.size
  have T3 := hc3.below T2 (by omega) (by omega)
  have hu12 : u.size ≤ 21 := by omega
  have hs3' := hs3.more (show _ ≤ 0 + 2 + 24 by omega)
  clear hc3 hs2 hs3 hu T2
  go_wp2_with fail
  refine (l05Runs_any u _ hu12).mono ?_
  rintro e w4 ⟨rfl, hb4⟩
  have T4 := bs T3 hb4
  have z4 := hb4.size
  have hs4 := hs3'.later hb4
  obtain ⟨R, hR⟩ : ∃ R, R = bs_ (runsT (byt u)) := ⟨_, rfl⟩
  have hR84 : R.size ≤ 84 := by rw [hR, bs_size]; exact runsT_len hu12
  rw [← hR]
  clear hb4 hs3' hR T3
  go_wp2_with fail
  refine (one_any p _ 3 _ hs4 (by omega) (by omega)).mono ?_
  rintro e w5 (⟨rfl, hs5, hc5⟩ | ⟨rfl, hs5, hc5⟩)
  all_goals
    have z5 := hc5.size
    have T5 := hc5.below T4 (by omega) (by omega)
    clear hc5 hs4 T4
  · go_wp2_with fail
    refine (l01Spoil_any p _ R _ hs5 (by omega) (by omega)).mono ?_
    rintro e w6 ⟨t, ht, rfl, hs6, hc6⟩
    have T6 := hc6.below T5 (by omega) (by omega)
    clear hc6 hs6
    go_wp2
    go_ret
    exact ⟨t, ht, rfl, T6⟩
  · go_wp2_with fail
    refine (one_any p _ 8 _ hs5 (by omega) (by omega)).mono ?_
    rintro e w6 (⟨rfl, hs6, hc6⟩ | ⟨rfl, hs6, hc6⟩)
    all_goals
      have z6 := hc6.size
      have T6 := hc6.below T5 (by omega) (by omega)
      clear hc6 hs5 T5
    · go_wp2_with fail
      refine (text_any p _ _ 8 8 eigT _ (hs6.later (ba (b0 _) _)) (by omega) rfl (by omega) (by omega) (Rd.own (own_lit w6 #[.string ⟨#[]⟩, .string ⟨#[109]⟩, .string ⟨#[109, 48]⟩, .string ⟨#[109, 49, 32, 109, 50]⟩, .string ⟨#[109, 50, 49]⟩, .string ⟨#[120, 51]⟩, .string ⟨#[109, 49, 32, 32, 115, 50]⟩, .string ⟨#[109, 50, 48, 32, 115, 49]⟩] 8 rfl (Nat.le_refl _) (by omega) rfl)) (by intro gg oo hgg; injection hgg with hgg; injection hgg with hgg; omega)).mono ?_
      rintro e w7 ⟨z, hz, rfl, hs7, hc7⟩
      have hzs := eigT_size hz
      have T7 := hc7.below (bs T6 (ba (b0 w6) _)) (by omega) (by simp; omega)
      clear hc7 hs7 hz
      go_wp2
      go_ret
      exact ⟨z, by omega, rfl, T7⟩
    · go_wp2
      go_ret
      exact ⟨R, by omega, rfl, T6⟩
end Go.Proofs.YtkmejkeanmjfbaaGreatDoor
