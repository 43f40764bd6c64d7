/- shifted, ShiftCard in the program and l06Shift, ShiftCard in the reference. -/
import Derived.Test.YthbgdnjlmaadjaaCardFns
import Derived.RegionTactic
import Derived.ChangeAlike
namespace Go.Proofs.Ythbgdnjlmaadjaa
open Go.RowKit

def shiftAt (xs : List Int) (sh : Int) (k : Nat) : Int := if insideB ((k : Int) - sh) 0 ((xs.length : Int) - 1) = true then xs.getD ((k : Int) - sh).toNat 0 else 0
def shiftL (xs : List Int) (sh : Int) : List Int := (List.range xs.length).map (shiftAt xs sh)
theorem shiftL_length (xs : List Int) (sh : Int) : (shiftL xs sh).length = xs.length := by simp [shiftL]
theorem shiftL_get (xs : List Int) (sh : Int) {k : Nat} (hk : k < xs.length) : (ints (shiftL xs sh))[k]? = some (.int .i64 (shiftAt xs sh k)) := by
  simp [ints, shiftL, hk]
theorem zeros_get {n k : Nat} (hk : k < n) : (ints (List.replicate n 0))[k]? = some (.int .i64 0) := by simp [ints, hk]
/-- A row that is not written at k takes what it holds. -/
theorem take_stay {ys zs : List Value} {k : Nat} {u : Value} (h : ys.take k = zs.take k) (hy : ys[k]? = some u) (hz : zs[k]? = some u) : ys.take (k + 1) = zs.take (k + 1) := by
  rw [take_succ_of _ _ _ hy, take_succ_of _ _ _ hz, h]

set_option maxRecDepth 100000 in
set_option maxHeartbeats 4000000 in
theorem shifted_any (A : Option Addr) (c : Nat) (xs : List Int) (sh : Int) (w : World) (ha : Rd w w.heap.size 1 A xs.length (ints xs)) (h1 : 1 ≤ xs.length) (h2 : xs.length ≤ 20) (hs0 : -20 ≤ sh) (hs1 : sh ≤ 20) :
    Calls Try.prog 104 #[.agg #[.slice A xs.length c], .int .i64 sh] w fun e w' => ∃ B d, e = .returned (.agg #[.slice B xs.length d]) ∧
      w'.ownsRow w.heap.size 2 1 (.slice B xs.length d) xs.length (ints (shiftL xs sh)) ∧ Below w.heap.size w w' := by
  have T0 : Below w.heap.size w ((w.alloc (.cells #[.slice A xs.length c] 26)).alloc (.cells #[.slice none 0 0] 26)) := ba (ba (b0 _) _) _
  go_enter Try.func104, Try.ntmps104
  go_wp2_with fail
  refine (columns_any _ _ _ _ (by omega)).mono ?_; rintro e w1 ⟨rfl, hb1⟩
  have k1 : w1.cell? ⟨w.heap.size, 0, none⟩ = some (.slice A xs.length c) := cell_later hb1 (by simp)
  have k2 : w1.cell? ⟨w.heap.size + 1, 0, none⟩ = some (.slice none 0 0) := cell_later hb1 (by simp)
  have f2 : w1.frozen? ⟨w.heap.size + 1, 0, none⟩ = false := (hb1.frozen (p := ⟨w.heap.size + 1, 0, none⟩) (by simp)).trans (by simp)
  have z1 := hb1.size
  simp only [World.size_alloc] at z1
  replace ha := ha.below (bs T0 hb1)
  replace T0 := bs T0 hb1
  clear hb1
  go_wp2_with fail
  refine (blank_any xs.length _ (by omega)).mono ?_; rintro e w2 ⟨B, rfl, ho, hb2⟩
  obtain ⟨g, rfl, hg, hglt⟩ := own_at ho h1
  have hall : w1.heap.size ≤ w2.heap.size := hb2.size
  have hlt2 : w.heap.size < w2.heap.size := by omega
  replace k1 := cell_later hb2 k1
  replace k2 := cell_later hb2 k2
  replace f2 : w2.frozen? ⟨w.heap.size + 1, 0, none⟩ = false := (hb2.frozen (p := ⟨w.heap.size + 1, 0, none⟩) (by simp only; omega)).trans f2
  go_wp2_with fail
  refine (columns_any _ _ _ _ (by omega)).mono ?_; rintro e w3 ⟨rfl, hb3⟩
  have T3 : Below w1.heap.size w1 w3 := bs (ba hb2 _) hb3
  have k1a : w3.cell? ⟨w.heap.size, 0, none⟩ = some (.slice A xs.length c) := cell_later hb3 (by rw [World.cell?_alloc_lt _ _ _ (by simp only; omega), k1])
  have k2a : w3.cell? ⟨w.heap.size + 1, 0, none⟩ = some (.slice none 0 0) := cell_later hb3 (by rw [World.cell?_alloc_lt _ _ _ (by simp only; omega), k2])
  have f2a : w3.frozen? ⟨w.heap.size + 1, 0, none⟩ = false := (hb3.frozen (p := ⟨w.heap.size + 1, 0, none⟩) (by simp; omega)).trans (by rw [World.frozen?_alloc_old _ _ _ (by simp only; omega), f2])
  have k3 : w3.cell? ⟨w2.heap.size, 0, none⟩ = some (.slice (some ⟨g, 0, none⟩) xs.length xs.length) := cell_later hb3 (by simp)
  have z3 := hb3.size
  simp only [World.size_alloc] at z3
  have ho3 := own_bs (ho.alloc _) hb3
  clear hb2 hb3 ho k1 k2 f2
  go_wp2
  go_loopw [12] (fun q wr => ∃ (k : Nat) (ys : List Value), k ≤ xs.length ∧ q = .int .i64 k ∧ wr.ownsRow w1.heap.size 2 1 (.slice (some ⟨g, 0, none⟩) xs.length xs.length) xs.length ys ∧ ys.take k = (ints (shiftL xs sh)).take k ∧ ys.drop k = (ints (List.replicate xs.length 0)).drop k ∧
      Below w1.heap.size w1 wr ∧ wr.cell? ⟨w.heap.size, 0, none⟩ = some (.slice A xs.length c) ∧ wr.cell? ⟨w.heap.size + 1, 0, none⟩ = some (.slice none 0 0) ∧ wr.frozen? ⟨w.heap.size + 1, 0, none⟩ = false ∧ wr.cell? ⟨w2.heap.size, 0, none⟩ = some (.slice (some ⟨g, 0, none⟩) xs.length xs.length) ∧ w2.heap.size < wr.heap.size) (fun q _ => xs.length - (intOf q).toNat)
  case atStart => exact ⟨0, _, Nat.zero_le _, by go_num, ho3, by simp, rfl, T3, k1a, k2a, f2a, k3, by omega⟩
  case round =>
    obtain ⟨k, ys, hk, rfl, hown, htk, hdr, hbw, k1, k2, f2, hk3, hw2⟩ := hrel
    have HTK := Lib.hid htk
    have HDR := Lib.hid hdr
    clear htk hdr
    have hyl := hown.1
    have hsz := hbw.size
    by_cases hlt : k < xs.length
    · go_wp2_with fail
      refine (columns_any _ _ _ _ (by omega)).mono ?_; rintro e w4 ⟨rfl, hb4⟩
      replace k1 := cell_later hb4 k1
      replace k2 := cell_later hb4 k2
      replace f2 : w4.frozen? ⟨w.heap.size + 1, 0, none⟩ = false := (hb4.frozen (p := ⟨w.heap.size + 1, 0, none⟩) (by simp only; omega)).trans f2
      replace hk3 := cell_later hb4 hk3
      replace hown := own_bs hown hb4
      replace hbw := bs hbw hb4
      have hsz4 := hb4.size
      clear hb4
      go_wp2_with fail
      refine (inside_any _ _ _ _).mono ?_; rintro e w5 ⟨rfl, rfl⟩
      rcases Bool.eq_false_or_eq_true (insideB ((k : Int) - sh) 0 ((xs.length : Int) - 1)) with hi | hi
      · obtain ⟨hi0, hi1⟩ := insideB_true hi
        obtain ⟨i, hii⟩ := Int.eq_ofNat_of_zero_le hi0
        have hil : i < xs.length := by omega
        obtain ⟨b, off, rfl, hbb, hcell⟩ := ha.at_ hil
        have g1 := (hbw.cell (p := ⟨b, off + i, none⟩) (by simp only; omega)).trans (hcell _ _ (ints_get xs i hil))
        have hv := Lib.hid (show shiftAt xs sh k = xs[i] by unfold shiftAt; rw [if_pos hi, hii, Int.toNat_natCast]; simp [List.getD, hil])
        have hcy := own_cell hown k (by omega)
        have hfy := hown.frozenAt k
        have hi2 := hi
        rw [hii] at hi2
        have hst := ownsRow_set hown k (.int .i64 xs[i])
        have HT2 := Lib.hid (take_step HTK.out (by omega) (by rw [shiftL_get xs sh hlt, hv.out]))
        have HD2 := Lib.hid (show (ys.set k (.int .i64 xs[i])).drop (k + 1) = (ints (List.replicate xs.length 0)).drop (k + 1) by rw [drop_set _ (by omega)]; exact drop_more HDR.out (by omega))
        have hgw : g < w4.heap.size := by omega
        have hng1 : ¬ g = w.heap.size := by omega
        have hng2 : ¬ g = w.heap.size + 1 := by omega
        have hng3 : ¬ g = w2.heap.size := by omega
        clear hcell
        go_wp2
        go_region
        all_goals
          go_wp2
          go_roundw
          case rel => exact ⟨k + 1, _, by omega, by go_num, hst, HT2.out, HD2.out, (bset hbw _ _ _ hg).drew, set_far k1 hng1, set_far k2 hng2, set_far_f f2 hng2, set_far hk3 hng3, by simp; omega⟩
          case measure => simp [intOf]; omega
      · have hv := Lib.hid (show shiftAt xs sh k = 0 by unfold shiftAt; rw [if_neg (by simp [hi])])
        have hyk : ys[k]? = some (.int .i64 0) := by rw [get_of_drop HDR.out (Nat.le_refl k), zeros_get hlt]
        have HT2 := Lib.hid (take_stay HTK.out hyk (by rw [shiftL_get xs sh hlt, hv.out]))
        clear hyk
        go_wp2
        go_roundw
        case rel => exact ⟨k + 1, ys, by omega, by go_num, hown, HT2.out, drop_more HDR.out (by omega), hbw, k1, k2, f2, hk3, by omega⟩
        case measure => simp [intOf]; omega
    · obtain rfl : k = xs.length := by omega
      have he := take_done HTK.out (by omega) (by rw [ints_length, shiftL_length])
      subst he
      go_wp2
      refine bodyPost_ret (v := .agg #[.slice (some ⟨g, 0, none⟩) xs.length xs.length]) (by simp [results, Try.results104, go_sem, *]) rfl ⟨_, _, rfl, ?_, ?_⟩
      · exact own_base (own_below hown _ _ _ (by omega)) (by omega)
      · exact bset (bs T0 hbw) _ _ _ (by omega)

def shiftOk (xs : List Int) (sh : Int) : Bool := cardOk xs && insideB sh (-20) 20
def shiftRes (xs : List Int) (sh : Int) : List Int := if shiftOk xs sh = true then shiftL xs sh else []
def shiftCode (xs : List Int) (sh : Int) : Int := if cardOk xs = true then (if insideB sh (-20) 20 = true then 0 else 2) else 1
theorem shiftRes_length (xs : List Int) (sh : Int) : (shiftRes xs sh).length ≤ 20 := by
  unfold shiftRes
  split
  · rename_i h
    simp only [shiftOk, Bool.and_eq_true] at h
    have := cardOk_len h.1
    rw [shiftL_length]
    omega
  · simp


set_option maxRecDepth 100000 in
set_option maxHeartbeats 4000000 in
theorem l06Shift_any (p q : Nat) (A : Option Addr) (c : Nat) (xs : List Int) (sh : Int) (w : World) (hp : w.cell? ⟨p, q, none⟩ = some (.slice A xs.length c)) (ha : Rd w w.heap.size 1 A xs.length (ints xs)) (h1 : 1 ≤ xs.length) (h2 : xs.length ≤ 20) (hs0 : -20 ≤ sh) (hs1 : sh ≤ 20) :
    Calls Try.prog 102 #[.pointer (some ⟨p, q, none⟩), .int .i64 sh] w fun e w' => ∃ B d, e = .returned (.agg #[.slice B xs.length d]) ∧
      w'.ownsRow w.heap.size 2 1 (.slice B xs.length d) xs.length (ints (shiftL xs sh)) ∧ Below w.heap.size w w' := by
  obtain ⟨i0, hi, hz0, hz1, hz2⟩ := info_parts info_i64
  have hplt := World.block_lt_of_cell? _ _ hp
  simp only at hplt
  have hpa : (w.alloc (.cells #[.slice none 0 0] 26)).cell? ⟨p, q, none⟩ = some (.slice A xs.length c) := by rw [World.cell?_alloc_lt _ _ _ (by exact hplt), hp]
  go_enter Try.func102, Try.ntmps102
  go_wp2_with (at_make; refine wpList_make_full _ rfl _ _ 24 rfl (w.heap.size + 1) 2 i0 (.int .i64 0) 1 Try.underlying24 hi hz0 hz1 _ _ _ _ xs.length rfl rfl rfl rfl (by rw [hz2]; omega) (by unfold maxLen; omega) (by simp) ?_; intro w1 hown1 hgrow1; have k2 : w1.cell? ⟨w.heap.size, 0, none⟩ = some (.slice none 0 0) := hgrow1.cell (a := ⟨w.heap.size, 0, none⟩) (by simp) (by simp); have f2 : w1.frozen? ⟨w.heap.size, 0, none⟩ = false := (hgrow1.frozen_far ⟨w.heap.size, 0, none⟩ (by simp) (by simp)).trans (by simp))
  rw [zeros_ints] at hown1
  simp only [World.size_alloc] at hown1
  have hglt : w.heap.size + 1 < w1.heap.size := own_heap hown1
  have T1 : Below (w.heap.size + 1) (w.alloc (.cells #[.slice none 0 0] 26)) w1 := (Below.refl _ _).grown hgrow1 (by simp) (by simp)
  have ha1 := ha.alloc (Nat.le_refl _) (.cells #[.slice none 0 0] 26)
  go_loopw [7] (fun q wr => ∃ (k : Nat) (ys : List Value), k ≤ xs.length ∧ q = .int .i64 k ∧ wr.ownsRow (w.heap.size + 1) 2 1 (.slice (some ⟨w.heap.size + 1, 0, none⟩) xs.length xs.length) xs.length ys ∧ ys.take k = (ints (shiftL xs sh)).take k ∧ ys.drop k = (ints (List.replicate xs.length 0)).drop k ∧
      Below (w.heap.size + 1) (w.alloc (.cells #[.slice none 0 0] 26)) wr ∧ wr.cell? ⟨w1.heap.size, 0, none⟩ = some (.slice (some ⟨w.heap.size + 1, 0, none⟩) xs.length xs.length) ∧ w1.heap.size < wr.heap.size) (fun q _ => xs.length - (intOf q).toNat)
  case atStart => exact ⟨0, _, Nat.zero_le _, by go_num, hown1.alloc _, by simp, rfl, T1.alloc (by omega) _, by simp, by simp⟩
  case round =>
    obtain ⟨k, ys, hk, rfl, hown, htk, hdr, hbw, hk3, hw2⟩ := hrel
    have HTK := Lib.hid htk
    have HDR := Lib.hid hdr
    clear htk hdr
    have hyl := hown.1
    have hsz := hbw.size
    simp only [World.size_alloc] at hsz
    have kp := (hbw.cell (p := ⟨p, q, none⟩) (by simp only; omega)).trans hpa
    have k2 := (hbw.cell (p := ⟨w.heap.size, 0, none⟩) (by simp)).trans (show (w.alloc (.cells #[.slice none 0 0] 26)).cell? ⟨w.heap.size, 0, none⟩ = some (.slice none 0 0) by simp)
    have f2 := (hbw.frozen (p := ⟨w.heap.size, 0, none⟩) (by simp)).trans (show (w.alloc (.cells #[.slice none 0 0] 26)).frozen? ⟨w.heap.size, 0, none⟩ = false by simp)
    by_cases hlt : k < xs.length
    · go_wp2_with fail
      refine (l00In_any _ _ _ _).mono ?_; rintro e w5 ⟨rfl, rfl⟩
      rcases Bool.eq_false_or_eq_true (insideB ((k : Int) - sh) 0 ((xs.length : Int) - 1)) with hi | hi
      · obtain ⟨hi0, hi1⟩ := insideB_true hi
        obtain ⟨i, hii⟩ := Int.eq_ofNat_of_zero_le hi0
        have hil : i < xs.length := by omega
        obtain ⟨b, off, rfl, hbb, hcell⟩ := ha1.at_ hil
        have g1 := (hbw.cell (p := ⟨b, off + i, none⟩) (by simp only; omega)).trans (hcell _ _ (ints_get xs i hil))
        have hv := Lib.hid (show shiftAt xs sh k = xs[i] by unfold shiftAt; rw [if_pos hi, hii, Int.toNat_natCast]; simp [List.getD, hil])
        have hcy := own_cell hown k (by omega)
        have hfy := hown.frozenAt k
        have hi2 := hi
        rw [hii] at hi2
        have hst := ownsRow_set hown k (.int .i64 xs[i])
        have HT2 := Lib.hid (take_step HTK.out (by omega) (by rw [shiftL_get xs sh hlt, hv.out]))
        have HD2 := Lib.hid (show (ys.set k (.int .i64 xs[i])).drop (k + 1) = (ints (List.replicate xs.length 0)).drop (k + 1) by rw [drop_set _ (by omega)]; exact drop_more HDR.out (by omega))
        have hng3 : ¬ w.heap.size + 1 = w1.heap.size := by omega
        clear hcell
        go_wp2
        go_region
        all_goals
          go_wp2
          go_roundw
          case rel => exact ⟨k + 1, _, by omega, by go_num, hst, HT2.out, HD2.out, (bset hbw _ _ _ (Nat.le_refl _)).drew, set_far hk3 hng3, by simp; omega⟩
          case measure => simp [intOf]; omega
      · have hv := Lib.hid (show shiftAt xs sh k = 0 by unfold shiftAt; rw [if_neg (by simp [hi])])
        have hyk : ys[k]? = some (.int .i64 0) := by rw [get_of_drop HDR.out (Nat.le_refl k), zeros_get hlt]
        have HT2 := Lib.hid (take_stay HTK.out hyk (by rw [shiftL_get xs sh hlt, hv.out]))
        clear hyk
        go_wp2
        go_roundw
        case rel => exact ⟨k + 1, ys, by omega, by go_num, hown, HT2.out, drop_more HDR.out (by omega), hbw, hk3, by omega⟩
        case measure => simp [intOf]; omega
    · obtain rfl : k = xs.length := by omega
      have he := take_done HTK.out (by omega) (by rw [ints_length, shiftL_length])
      subst he
      go_wp2
      refine bodyPost_ret (v := .agg #[.slice (some ⟨w.heap.size + 1, 0, none⟩) xs.length xs.length]) (by simp [results, Try.results102, go_sem, *]) rfl ⟨_, _, rfl, ?_, ?_⟩
      · exact own_base (own_below hown _ _ _ (by omega)) (by omega)
      · exact bset (bs (ba (b0 w) (.cells #[.slice none 0 0] 26)) (hbw.mono (by simp))) _ _ _ (Nat.le_refl _)

set_option maxHeartbeats 2000000 in
theorem ShiftCard_any (A : Option Addr) (c : Nat) (xs : List Int) (n : Int) (w : World) (ha : Rd w w.heap.size 1 A xs.length (ints xs)) (hl : xs.length ≤ 1048576) (hc : xs.length ≤ c) :
    Calls Try.prog 28 #[.agg #[.slice A xs.length c], .int .i64 n] w fun e w' => ∃ B d, e = .returned (.tuple #[.agg #[.slice B (shiftRes xs n).length d], .int .i64 (shiftCode xs n)]) ∧
      w'.ownsRow w.heap.size 2 1 (.slice B (shiftRes xs n).length d) (shiftRes xs n).length (ints (shiftRes xs n)) ∧ Below w.heap.size w w' := by
  have T0 : Below w.heap.size w ((w.alloc (.cells #[.slice A xs.length c] 26)).alloc (.cells #[.slice none 0 0] 26)) := ba (ba (b0 _) _) _
  rcases Bool.eq_false_or_eq_true (cardOk xs) with hv | hv
  · have hlen := cardOk_len hv
    rcases Bool.eq_false_or_eq_true (insideB n (-20) 20) with hi | hi
    · obtain ⟨hi0, hi1⟩ := insideB_true hi
      have hr := Lib.hid (show shiftRes xs n = shiftL xs n by unfold shiftRes; rw [if_pos (by simp [shiftOk, hv, hi])])
      have hcd := Lib.hid (show shiftCode xs n = 0 by unfold shiftCode; rw [if_pos hv, if_pos hi])
      have hsl := Lib.hid (shiftL_length xs n)
      go_enter Try.func28, Try.ntmps28
      go_wp2_with fail
      refine (ValidCard_any _ _ _ _ ((ha.a1 _).a1 _) hl).mono ?_; rintro e w1 ⟨rfl, hb1⟩
      have k1 : w1.cell? ⟨w.heap.size, 0, none⟩ = some (.slice A xs.length c) := cell_later hb1 (by simp)
      have k2 : w1.cell? ⟨w.heap.size + 1, 0, none⟩ = some (.slice none 0 0) := cell_later hb1 (by simp)
      have f2 : w1.frozen? ⟨w.heap.size + 1, 0, none⟩ = false := (hb1.frozen (p := ⟨w.heap.size + 1, 0, none⟩) (by simp)).trans (by simp)
      have z1 := hb1.size
      simp only [World.size_alloc] at z1
      go_wp2_with fail
      refine (inside_any _ _ _ _).mono ?_; rintro e w2 ⟨rfl, rfl⟩
      go_wp2_with fail
      refine (shifted_any A c xs n _ (((ha.a1 _).a1 _).up hb1) (by omega) (by omega) hi0 hi1).mono ?_; rintro e w2 ⟨B, d, rfl, ho, hb2⟩
      replace k2 := cell_later hb2 k2
      have f3 : w2.frozen? ⟨w.heap.size + 1, 0, none⟩ = false := (hb2.frozen (p := ⟨w.heap.size + 1, 0, none⟩) (by simp only; omega)).trans f2
      go_wp2
      refine bodyPost_ret (v := .tuple #[.agg #[.slice B xs.length d], .int .i64 0]) (by simp [results, Try.results28, go_sem, *]) rfl ?_
      rw [hr.out, hcd.out, hsl.out]
      exact ⟨B, d, rfl, own_base (own_below ho _ _ _ (by omega)) (by omega), bset (bs (bs T0 hb1) hb2) _ _ _ (by omega)⟩
    · have hr := Lib.hid (show shiftRes xs n = [] by unfold shiftRes; rw [if_neg (by simp [shiftOk, hi])])
      have hcd := Lib.hid (show shiftCode xs n = 2 by unfold shiftCode; rw [if_pos hv, if_neg (by simp [hi])])
      go_enter Try.func28, Try.ntmps28
      go_wp2_with fail
      refine (ValidCard_any _ _ _ _ ((ha.a1 _).a1 _) hl).mono ?_; rintro e w1 ⟨rfl, hb1⟩
      have k2 : w1.cell? ⟨w.heap.size + 1, 0, none⟩ = some (.slice none 0 0) := cell_later hb1 (by simp)
      have f2 : w1.frozen? ⟨w.heap.size + 1, 0, none⟩ = false := (hb1.frozen (p := ⟨w.heap.size + 1, 0, none⟩) (by simp)).trans (by simp)
      go_wp2_with fail
      refine (inside_any _ _ _ _).mono ?_; rintro e w2 ⟨rfl, rfl⟩
      go_wp2
      refine bodyPost_ret (v := .tuple #[.agg #[.slice none 0 0], .int .i64 2]) (by simp [results, Try.results28, go_sem, *]) rfl ?_
      rw [hr.out, hcd.out]
      exact ⟨none, 0, rfl, World.ownsRow_nil _ _ _ _, bset (bs T0 hb1) _ _ _ (by omega)⟩
  · have hr := Lib.hid (show shiftRes xs n = [] by unfold shiftRes; rw [if_neg (by simp [shiftOk, hv])])
    have hcd := Lib.hid (show shiftCode xs n = 1 by unfold shiftCode; rw [if_neg (by simp [hv])])
    go_enter Try.func28, Try.ntmps28
    go_wp2_with fail
    refine (ValidCard_any _ _ _ _ ((ha.a1 _).a1 _) hl).mono ?_; rintro e w1 ⟨rfl, hb1⟩
    have k2 : w1.cell? ⟨w.heap.size + 1, 0, none⟩ = some (.slice none 0 0) := cell_later hb1 (by simp)
    have f2 : w1.frozen? ⟨w.heap.size + 1, 0, none⟩ = false := (hb1.frozen (p := ⟨w.heap.size + 1, 0, none⟩) (by simp)).trans (by simp)
    go_wp2
    refine bodyPost_ret (v := .tuple #[.agg #[.slice none 0 0], .int .i64 1]) (by simp [results, Try.results28, go_sem, *]) rfl ?_
    rw [hr.out, hcd.out]
    exact ⟨none, 0, rfl, World.ownsRow_nil _ _ _ _, bset (bs T0 hb1) _ _ _ (by omega)⟩
set_option maxHeartbeats 2000000 in
theorem spShiftCard_any (A : Option Addr) (c : Nat) (xs : List Int) (n : Int) (w : World) (ha : Rd w w.heap.size 1 A xs.length (ints xs)) (hl : xs.length ≤ 1048576) (hc : xs.length ≤ c) :
    Calls Try.prog 29 #[.agg #[.slice A xs.length c], .int .i64 n] w fun e w' => ∃ B d, e = .returned (.tuple #[.agg #[.slice B (shiftRes xs n).length d], .int .i64 (shiftCode xs n)]) ∧
      w'.ownsRow w.heap.size 2 1 (.slice B (shiftRes xs n).length d) (shiftRes xs n).length (ints (shiftRes xs n)) ∧ Below w.heap.size w w' := by
  have T0 : Below w.heap.size w ((w.alloc (.cells #[.slice A xs.length c] 26)).alloc (.cells #[.slice none 0 0] 26)) := ba (ba (b0 _) _) _
  rcases Bool.eq_false_or_eq_true (cardOk xs) with hv | hv
  · have hlen := cardOk_len hv
    rcases Bool.eq_false_or_eq_true (insideB n (-20) 20) with hi | hi
    · obtain ⟨hi0, hi1⟩ := insideB_true hi
      have hr := Lib.hid (show shiftRes xs n = shiftL xs n by unfold shiftRes; rw [if_pos (by simp [shiftOk, hv, hi])])
      have hcd := Lib.hid (show shiftCode xs n = 0 by unfold shiftCode; rw [if_pos hv, if_pos hi])
      have hsl := Lib.hid (shiftL_length xs n)
      go_enter Try.func29, Try.ntmps29
      go_wp2_with fail
      refine (l02Ok_any _ _ A c xs _ (by simp) ((ha.a1 _).a1 _) hl).mono ?_; rintro e w1 ⟨rfl, hb1⟩
      have k1 : w1.cell? ⟨w.heap.size, 0, none⟩ = some (.slice A xs.length c) := cell_later hb1 (by simp)
      have k2 : w1.cell? ⟨w.heap.size + 1, 0, none⟩ = some (.slice none 0 0) := cell_later hb1 (by simp)
      have f2 : w1.frozen? ⟨w.heap.size + 1, 0, none⟩ = false := (hb1.frozen (p := ⟨w.heap.size + 1, 0, none⟩) (by simp)).trans (by simp)
      have z1 := hb1.size
      simp only [World.size_alloc] at z1
      go_wp2_with fail
      refine (l00In_any _ _ _ _).mono ?_; rintro e w2 ⟨rfl, rfl⟩
      go_wp2_with fail
      refine (l06Shift_any _ _ A c xs n _ k1 (((ha.a1 _).a1 _).up hb1) (by omega) (by omega) hi0 hi1).mono ?_; rintro e w2 ⟨B, d, rfl, ho, hb2⟩
      replace k2 := cell_later hb2 k2
      have f3 : w2.frozen? ⟨w.heap.size + 1, 0, none⟩ = false := (hb2.frozen (p := ⟨w.heap.size + 1, 0, none⟩) (by simp only; omega)).trans f2
      go_wp2
      refine bodyPost_ret (v := .tuple #[.agg #[.slice B xs.length d], .int .i64 0]) (by simp [results, Try.results29, go_sem, *]) rfl ?_
      rw [hr.out, hcd.out, hsl.out]
      exact ⟨B, d, rfl, own_base (own_below ho _ _ _ (by omega)) (by omega), bset (bs (bs T0 hb1) hb2) _ _ _ (by omega)⟩
    · have hr := Lib.hid (show shiftRes xs n = [] by unfold shiftRes; rw [if_neg (by simp [shiftOk, hi])])
      have hcd := Lib.hid (show shiftCode xs n = 2 by unfold shiftCode; rw [if_pos hv, if_neg (by simp [hi])])
      go_enter Try.func29, Try.ntmps29
      go_wp2_with fail
      refine (l02Ok_any _ _ A c xs _ (by simp) ((ha.a1 _).a1 _) hl).mono ?_; rintro e w1 ⟨rfl, hb1⟩
      have k2 : w1.cell? ⟨w.heap.size + 1, 0, none⟩ = some (.slice none 0 0) := cell_later hb1 (by simp)
      have f2 : w1.frozen? ⟨w.heap.size + 1, 0, none⟩ = false := (hb1.frozen (p := ⟨w.heap.size + 1, 0, none⟩) (by simp)).trans (by simp)
      go_wp2_with fail
      refine (l00In_any _ _ _ _).mono ?_; rintro e w2 ⟨rfl, rfl⟩
      go_wp2
      refine bodyPost_ret (v := .tuple #[.agg #[.slice none 0 0], .int .i64 2]) (by simp [results, Try.results29, go_sem, *]) rfl ?_
      rw [hr.out, hcd.out]
      exact ⟨none, 0, rfl, World.ownsRow_nil _ _ _ _, bset (bs T0 hb1) _ _ _ (by omega)⟩
  · have hr := Lib.hid (show shiftRes xs n = [] by unfold shiftRes; rw [if_neg (by simp [shiftOk, hv])])
    have hcd := Lib.hid (show shiftCode xs n = 1 by unfold shiftCode; rw [if_neg (by simp [hv])])
    go_enter Try.func29, Try.ntmps29
    go_wp2_with fail
    refine (l02Ok_any _ _ A c xs _ (by simp) ((ha.a1 _).a1 _) hl).mono ?_; rintro e w1 ⟨rfl, hb1⟩
    have k2 : w1.cell? ⟨w.heap.size + 1, 0, none⟩ = some (.slice none 0 0) := cell_later hb1 (by simp)
    have f2 : w1.frozen? ⟨w.heap.size + 1, 0, none⟩ = false := (hb1.frozen (p := ⟨w.heap.size + 1, 0, none⟩) (by simp)).trans (by simp)
    go_wp2
    refine bodyPost_ret (v := .tuple #[.agg #[.slice none 0 0], .int .i64 1]) (by simp [results, Try.results29, go_sem, *]) rfl ?_
    rw [hr.out, hcd.out]
    exact ⟨none, 0, rfl, World.ownsRow_nil _ _ _ _, bset (bs T0 hb1) _ _ _ (by omega)⟩
end Go.Proofs.Ythbgdnjlmaadjaa
