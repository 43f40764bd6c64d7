/- RepairCard in the program. -/
import Derived.Test.YthbgdnjlmaadjaaFix
import Derived.Test.YthbgdnjlmaadjaaShift
import Derived.Test.YthbgdnjlmaadjaaLace
import Derived.Deep.RegionHeld3
namespace Go.Proofs.Ythbgdnjlmaadjaa
open Go.RowKit

def rcL (xs : List Int) : List Int := if cardOk xs = true then fixL xs else []
def rcN (xs : List Int) : Int := if cardOk xs = true then distV (fixL xs) xs else 0
def rcC (xs : List Int) : Int := if cardOk xs = true then 0 else 1
theorem rcL_length (xs : List Int) : (rcL xs).length ≤ 20 := by
  unfold rcL
  split
  · rename_i h
    rw [fixL_length]
    exact (cardOk_len h).2
  · simp
/-- The first k columns are repaired, the others blank. -/
def fixTo (xs : List Int) (k : Nat) : List Int := (List.range xs.length).map fun j => if j < k then fixI (xs.getD j 0) else 0
theorem fixTo_length (xs : List Int) (k : Nat) : (fixTo xs k).length = xs.length := by simp [fixTo]
theorem fixTo_zero (xs : List Int) : fixTo xs 0 = List.replicate xs.length 0 := by
  apply List.ext_getElem
  · simp [fixTo]
  · intro j h1 h2
    simp [fixTo]
theorem fixTo_all (xs : List Int) : fixTo xs xs.length = fixL xs := by
  apply List.ext_getElem
  · simp [fixTo, fixL]
  · intro j h1 h2
    have hj : j < xs.length := by simpa [fixL] using h2
    simp [fixTo, fixL, hj]
theorem fixTo_succ (xs : List Int) {k : Nat} (hk : k < xs.length) : fixTo xs (k + 1) = (fixTo xs k).set k (fixI xs[k]) := by
  apply List.ext_getElem
  · simp [fixTo]
  · intro j h1 h2
    have hj : j < xs.length := by simpa [fixTo] using h1
    by_cases e : j = k
    · subst e
      simp [fixTo, hj]
    · rw [List.getElem_set_ne (fun h => e h.symm)]
      simp only [fixTo, List.getElem_map, List.getElem_range]
      by_cases h : j < k
      · rw [if_pos h, if_pos (by omega)]
      · rw [if_neg h, if_neg (by omega)]
/-- Behind k columns. -/
def RcR (xs : List Int) (g b2 : Nat) (w1 wr : World) (q : Value) : Prop := ∃ k : Nat, k ≤ xs.length ∧ q = .int .i64 k ∧ wr.ownsRow w1.heap.size 2 1 (.slice (some ⟨g, 0, none⟩) xs.length xs.length) xs.length (ints (fixTo xs k)) ∧ Below w1.heap.size w1 wr ∧
    wr.cell? ⟨b2, 0, none⟩ = some (.slice (some ⟨g, 0, none⟩) xs.length xs.length) ∧ b2 < wr.heap.size

set_option maxRecDepth 100000 in
set_option maxHeartbeats 4000000 in
theorem RepairCard_any (A : Option Addr) (c : Nat) (xs : List Int) (w : World) (ha : Rd w w.heap.size 1 A xs.length (ints xs)) (hl : xs.length ≤ 1048576) (_hc : xs.length ≤ c) :
    Calls Try.prog 16 #[.agg #[.slice A xs.length c]] w fun e w' => ∃ B d, e = .returned (.tuple #[.agg #[.slice B (rcL xs).length d], .int .i64 (rcN xs), .int .i64 (rcC xs)]) ∧
      w'.ownsRow w.heap.size 2 1 (.slice B (rcL xs).length d) (rcL xs).length (ints (rcL xs)) ∧ Below w.heap.size w w' := by
  obtain ⟨W, hW⟩ : ∃ W, W = (w.alloc (.cells #[.slice A xs.length c] 26)).alloc (.cells #[.slice none 0 0] 26) := ⟨_, rfl⟩
  have T0 : Below w.heap.size w W := by rw [hW]; exact ba (ba (b0 w) _) _
  have ra : Rd W W.heap.size 1 A xs.length (ints xs) := by rw [hW]; exact (ha.a1 _).a1 _
  have k1 : W.cell? ⟨w.heap.size, 0, none⟩ = some (.slice A xs.length c) := by rw [hW]; exact cell_alloc (cell_new rfl rfl) _
  have k2 : W.cell? ⟨w.heap.size + 1, 0, none⟩ = some (.slice none 0 0) := by rw [hW]; exact cell_new (by simp) rfl
  have f2 : W.frozen? ⟨w.heap.size + 1, 0, none⟩ = false := by rw [hW]; exact froz_new (by simp)
  have z0 : W.heap.size = w.heap.size + 1 + 1 := by rw [hW]; simp
  have HW := Lib.hid hW
  clear hW ha
  rcases Bool.eq_false_or_eq_true (cardOk xs) with hv | hv
  · have HR := Lib.hid (show rcL xs = fixL xs by unfold rcL; rw [if_pos hv])
    have HN := Lib.hid (show rcN xs = distV (fixL xs) xs by unfold rcN; rw [if_pos hv])
    have HC := Lib.hid (show rcC xs = 0 by unfold rcC; rw [if_pos hv])
    have HRL := Lib.hid (show (rcL xs).length = xs.length by rw [HR.out, fixL_length])
    have HV := Lib.hid hv
    have HFO := Lib.hid (fixL_ok hv)
    have h1 := (cardOk_len hv).1
    have h2 := (cardOk_len hv).2
    clear hv
    go_enter Try.func16, Try.ntmps16
    go_wp2_with fail
    rw [← HW.out]
    refine (ValidCard_any _ _ _ _ ra hl).mono ?_; rw [HV.out]; rintro e w0 ⟨rfl, hb0⟩
    have q1 := cell_later hb0 k1
    go_wp2_with fail
    refine (columns_any _ _ _ _ hl).mono ?_; rintro e w1 ⟨rfl, hb1⟩
    have T1 := bs hb0 hb1
    have q1' := cell_later T1 k1
    have q2 := cell_later T1 k2
    have g2 := froz_later T1 f2 (by omega)
    have ra1 := ra.up T1
    have T01 := bs T0 T1
    have z1 := T1.size
    have HQ2 := Lib.hid q2
    have HG2 := Lib.hid g2
    clear hb0 hb1 q1 k1 k2 f2 ra T1 q2 g2
    go_wp2_with fail
    refine (blank_any xs.length _ (by omega)).mono ?_; rintro e w2 ⟨B, rfl, ho, hb2⟩
    obtain ⟨g, rfl, hg, hglt⟩ := own_at ho h1
    have hgne : ¬ g = w2.heap.size := by omega
    have z2 := hb2.size
    have TB := ba hb2 (.cells #[.slice (some ⟨g, 0, none⟩) xs.length xs.length] 26)
    have ho3 := ho.alloc (.cells #[.slice (some ⟨g, 0, none⟩) xs.length xs.length] 26)
    have q5 := cell_later TB q1'
    clear ho hb2
    go_wp2
    go_loopw [6, 7, 8, 9, 20] (fun _ _ _ _ q wr => RcR xs g w2.heap.size w1 wr q) (fun _ _ _ _ q _ => xs.length - (intOf q).toNat)
    case atStart => exact ⟨0, Nat.zero_le _, rfl, by rw [fixTo_zero]; exact ho3, TB, cell_new rfl rfl, by simp⟩
    case round =>
      obtain ⟨wo, rfl⟩ : ∃ wo : World, wo = wr := ⟨_, rfl⟩
      obtain ⟨k, hk, rfl, hown, hbw, h7, hz7⟩ := hrel
      by_cases hlt : k < xs.length
      · obtain ⟨bz, oz, rfl, _, hcz⟩ := (ra1.up hbw).at_ hlt
        have d1 := hcz k _ (ints_get xs k hlt)
        have hm := getD_hole HV.out k
        rw [getD_at hlt] at hm
        have HS := Lib.hid (fixTo_succ xs hlt)
        have hkl : k < (ints (fixTo xs k)).length := by rw [ints_length, fixTo_length]; exact hlt
        obtain ⟨u, hu⟩ : ∃ u, u = xs[k] := ⟨_, rfl⟩
        rw [← hu] at d1 hm HS
        obtain ⟨cn, hcn⟩ : ∃ cn : Int, cn = ((nearTo u 40).1.toNat : Int) := ⟨_, rfl⟩
        obtain ⟨dn, hdn⟩ : ∃ dn, dn = (nearTo u 40).2 := ⟨_, rfl⟩
        obtain ⟨v, hvv⟩ : ∃ v, v = fixI u := ⟨_, rfl⟩
        have HNE := Lib.hid (show ∀ w : World, Calls Try.prog 90 #[.int .i64 u] w fun e w' => e = .returned (.tuple #[.int .u8 cn, .int .i64 dn]) ∧ w = w' from fun w => by rw [hcn, hdn]; exact nearest_any u hm.1 hm.2 w)
        have HCO := Lib.hid (show ∀ w : World, Calls Try.prog 91 #[.int .u8 cn] w fun e w' => e = .returned (.int .i64 v) ∧ w = w' from fun w => by rw [hcn, hvv]; exact codeOf_fix u hm.1 hm.2 w)
        rw [← hvv] at HS
        have c6 := own_cell hown k hkl
        have c7 := hown.frozenAt k
        have i1 : (k : Int) < (xs.length : Int) := by omega
        have HST := Lib.hid (show (wo.setCell ⟨g, k, none⟩ (.int .i64 v)).ownsRow w1.heap.size 2 1 (.slice (some ⟨g, 0, none⟩) xs.length xs.length) xs.length (ints (fixTo xs (k + 1))) by
          rw [HS.out, ints_set]
          exact ownsRow_set hown k _)
        have HB := Lib.hid (bset hbw g k (.int .i64 v) hg)
        have H7 := Lib.hid (set_far (u := .int .i64 v) (k := k) h7 hgne)
        have HZ := Lib.hid (show w2.heap.size < (wo.setCell ⟨g, k, none⟩ (.int .i64 v)).heap.size by simp [World.setCell]; omega)
        clear hcz hu hcn hdn hvv hm
        go_wp2_with fail
        refine (HNE.out _).mono ?_; rintro e w4 ⟨rfl, rfl⟩
        go_wp2_with fail
        go_region_held3 (fun w' => w'.cell? ⟨w2.heap.size, 0, none⟩ = some (.slice (some ⟨g, 0, none⟩) xs.length xs.length)) (first | exact h7 | go_keep)
          (first
            | (go_at_call 91; refine (HCO.out _).mono ?_; rintro e w5 ⟨rfl, rfl⟩))
        have TX : Below (wo.setCell ⟨g, k, none⟩ (.int .i64 v)).heap.size (wo.setCell ⟨g, k, none⟩ (.int .i64 v)) (wo.setCell ⟨g, k, none⟩ (.int .i64 v)).drew := (b0 _).drew
        have HST2 := Lib.hid (own_bs HST.out TX)
        have HB2 := Lib.hid (show Below w1.heap.size w1 (wo.setCell ⟨g, k, none⟩ (.int .i64 v)).drew from HB.out.drew)
        have H72 := Lib.hid (cell_later TX H7.out)
        have HZ2 := Lib.hid (show w2.heap.size < (wo.setCell ⟨g, k, none⟩ (.int .i64 v)).drew.heap.size from Nat.lt_of_lt_of_le HZ.out TX.size)
        clear TX
        go_wp2
        go_roundw
        case rel =>
          have P : RcR xs g w2.heap.size w1 (wo.setCell ⟨g, k, none⟩ (.int .i64 v)).drew (.int .i64 ((k : Int) + 1)) := ⟨k + 1, by omega, by go_num, HST2.out, HB2.out, H72.out, HZ2.out⟩
          first | exact P | exact ⟨_, P, rfl⟩ | exact ⟨_, _, P, rfl, rfl⟩ | exact ⟨_, _, _, P, rfl, rfl, rfl⟩ | exact ⟨_, _, _, _, P, rfl, rfl, rfl, rfl⟩ | exact ⟨_, _, _, _, _, P, rfl, rfl, rfl, rfl, rfl⟩ | exact ⟨_, _, _, _, _, _, P, rfl, rfl, rfl, rfl, rfl, rfl⟩ | exact ⟨_, _, _, _, _, _, _, P, rfl, rfl, rfl, rfl, rfl, rfl, rfl⟩ | exact ⟨_, _, _, _, _, _, _, _, P, rfl, rfl, rfl, rfl, rfl, rfl, rfl, rfl⟩
        case measure => simp [intOf]; omega
      · obtain rfl : k = xs.length := by omega
        rw [fixTo_all] at hown
        have r1 := cell_later hbw q1'
        have p3 := cell_later hbw HQ2.out
        have f3 := froz_later hbw HG2.out (by omega)
        have rg : Rd wo wo.heap.size 1 (some ⟨g, 0, none⟩) xs.length (ints (fixL xs)) := Rd.own hown
        have rx := ra1.up hbw
        have zw := hbw.size
        have HFL := Lib.hid (fixL_length xs)
        go_wp2_with fail
        go_region_held3 (fun w' => w'.cell? ⟨w2.heap.size, 0, none⟩ = some (.slice (some ⟨g, 0, none⟩) xs.length xs.length) ∧ w'.cell? ⟨w.heap.size, 0, none⟩ = some (.slice A xs.length c)) (first | exact ⟨h7, r1⟩ | exact ⟨set_far h7 (by omega), set_far r1 (by omega)⟩ | go_keep)
          (first
            | (go_at_call 78; refine (distanceOf_n xs.length _ _ _ _ (fixL xs) xs _ HFL.out ?_ ?_ HFO.out HV.out rfl).mono ?_; (exact rg); (exact rx); rintro e w5 ⟨rfl, hb5⟩; have hb5 : Below wo.heap.size wo w5 := ⟨hb5.os, hb5.tape, hb5.output, hb5.size, hb5.block⟩; replace h7 := cell_later hb5 h7; replace r1 := cell_later hb5 r1; replace p3 := cell_later hb5 p3; replace f3 := froz_later hb5 f3 (by omega); replace hown := own_bs hown hb5))
        go_wp2
        refine bodyPost_ret (v := .tuple #[.agg #[.slice (some ⟨g, 0, none⟩) xs.length xs.length], .int .i64 (distV (fixL xs) xs), .int .i64 0]) (by simp [results, Try.results16, go_sem, *]) rfl ?_
        rw [HRL.out, HN.out, HC.out, HR.out]
        exact ⟨_, _, rfl, own_base (own_below hown _ _ _ (by omega)) T01.size, bset (bs (bs T01 hbw) hb5) _ _ _ (by omega)⟩
  · have HR := Lib.hid (show rcL xs = [] by unfold rcL; rw [if_neg (by rw [hv]; decide)])
    have HN := Lib.hid (show rcN xs = 0 by unfold rcN; rw [if_neg (by rw [hv]; decide)])
    have HC := Lib.hid (show rcC xs = 1 by unfold rcC; rw [if_neg (by rw [hv]; decide)])
    have HV := Lib.hid hv
    clear hv
    go_enter Try.func16, Try.ntmps16
    go_wp2_with fail
    rw [← HW.out]
    refine (ValidCard_any _ _ _ _ ra hl).mono ?_; rw [HV.out]; rintro e w1 ⟨rfl, hb1⟩
    have p3 := cell_later hb1 k2
    have f3 := froz_later hb1 f2 (by omega)
    go_wp2
    refine bodyPost_ret (v := .tuple #[.agg #[.slice none 0 0], .int .i64 0, .int .i64 1]) (by simp [results, Try.results16, go_sem, *]) rfl ?_
    rw [HR.out, HN.out, HC.out]
    exact ⟨none, 0, rfl, World.ownsRow_nil _ _ _ _, bset (bs T0 hb1) _ _ _ (by omega)⟩
end Go.Proofs.Ythbgdnjlmaadjaa
