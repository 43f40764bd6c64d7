/- DigitPlan in the program and in the reference. -/
import Derived.Test.YtckgicekpkgcnaaPlan
import Derived.Test.YtckgicekpkgcnaaDelPass
namespace Go.Proofs.Ytckgicekpkgcnaa
open Go.RowKit

def digitsOf (b : Int) (j : Nat) : List (Int × Int) := (List.range j).map fun i : Nat => (b - 1 - (i : Int), 1)
theorem digitsOf_succ (b : Int) (j : Nat) : digitsOf b (j + 1) = digitsOf b j ++ [(b - 1 - (j : Int), 1)] := by simp [digitsOf, List.range_succ]
theorem digitsOf_length (b : Int) (j : Nat) : (digitsOf b j).length = j := by simp [digitsOf]
def zoneB (p : Int × Int) : Bool := p.2 == 2
theorem keep_plan (b : Int) (j : Nat) : keep zoneB (planOf b j) = digitsOf b j := by
  induction j with
  | zero => rfl
  | succ j ih =>
    rw [planOf_succ, digitsOf_succ, ← ih]
    simp [keep, zoneB]
def digRes (a b : Int) : List (Int × Int) := if fieldOk a b 20 = true then digitsOf b (b - a).toNat else []
def digCode (a b : Int) : Int := if fieldOk a b 20 = true then 0 else 2
theorem digRes_length (a b : Int) : (digRes a b).length ≤ 40 := by
  unfold digRes
  split
  · rename_i h
    have := fieldOk_true h
    rw [digitsOf_length]
    omega
  · simp

theorem DigitPlan1_any (a b : Int) (w : World) :
    Calls Try.prog 76 #[.agg #[.int .i64 a, .int .i64 b]] w fun e w' => e = .returned (.bool (zoneB (a, b))) ∧ Below w.heap.size w w' := by
  go_enter Try.func76, Try.ntmps76
  go_wp2
  go_ret
  exact ⟨rfl, ba (b0 _) _⟩

set_option maxHeartbeats 1000000 in
theorem DigitPlan_any (a b : Int) (w : World) :
    Calls Try.prog 31 #[.agg #[.int .i64 a, .int .i64 b]] w fun e w' => ∃ A c, e = .returned (.tuple #[.slice A (digRes a b).length c, .int .i64 (digCode a b)]) ∧
      w'.ownsRow w.heap.size 77 2 (.slice A (digRes a b).length c) (digRes a b).length (prs (digRes a b)) ∧ Below w.heap.size w w' := by
  by_cases hf : fieldOk a b 20 = true
  · obtain ⟨h0, h1, h2⟩ := fieldOk_true hf
    have hpl : (planOf b (b - a).toNat).length ≤ 40 := by rw [planOf_length]; omega
    have hr := Lib.hid (show digRes a b = keep zoneB (planOf b (b - a).toNat) by unfold digRes; rw [if_pos hf, keep_plan])
    have hc := Lib.hid (show digCode a b = 0 by unfold digCode; rw [if_pos hf])
    go_enter Try.func31, Try.ntmps31
    go_wp2_with fail
    refine (isField_any _ _ _ _).mono ?_; rintro e w1 ⟨rfl, hb1⟩
    have hc0 := hb1.cell (p := ⟨w.heap.size, 0, none⟩) (by simp)
    have hc1 := hb1.cell (p := ⟨w.heap.size, 1, none⟩) (by simp)
    go_wp2_with fail
    refine (fullPlan_any a b _ h0 h1 h2).mono ?_; rintro e w2 ⟨A, c, rfl, ho, hb2⟩
    have hz := hb1.size
    simp only [World.size_alloc] at hz
    have hz2 := hb2.size
    go_wp2_with fail
    refine (DeleteFuncPass_any A c _ (planOf b (b - a).toNat) 76 #[] zoneB _ ho hb2.size (by omega) Try.call76
      (fun p _ w' _ => by rw [Array.append_empty]; exact DigitPlan1_any p.1 p.2 w')).mono ?_; rintro e w3 ⟨rfl, ho3, hb3⟩
    go_wp2
    go_ret2
    rw [hr.out, hc.out]
    exact ⟨A, c, rfl, own_base ho3 (by omega), (bs (bs (ba (b0 _) _) hb1) hb2).trans (hb3.mono (by omega))⟩
  · have hff : fieldOk a b 20 = false := by simpa using hf
    have hr := Lib.hid (show digRes a b = [] by unfold digRes; rw [if_neg hf])
    have hc := Lib.hid (show digCode a b = 2 by unfold digCode; rw [if_neg hf])
    go_enter Try.func31, Try.ntmps31
    go_wp2_with fail
    refine (isField_any _ _ _ _).mono ?_; rintro e w1 ⟨rfl, hb1⟩
    go_wp2
    go_ret2
    rw [hr.out, hc.out]
    exact ⟨none, 0, rfl, World.ownsRow_nil _ _ _ _, bs (ba (b0 _) _) hb1⟩

set_option maxRecDepth 100000 in
set_option maxHeartbeats 1000000 in
theorem spDigitPlan_any (a b : Int) (w : World) :
    Calls Try.prog 30 #[.agg #[.int .i64 a, .int .i64 b]] w fun e w' => ∃ A c, e = .returned (.tuple #[.slice A (digRes a b).length c, .int .i64 (digCode a b)]) ∧
      w'.ownsRow w.heap.size 77 2 (.slice A (digRes a b).length c) (digRes a b).length (prs (digRes a b)) ∧ Below w.heap.size w w' := by
  obtain ⟨i0, hi, hz0, hz1, hz2⟩ := info_parts info_iPass
  by_cases hf : fieldOk a b 20 = true
  · obtain ⟨h0, h1, h2⟩ := fieldOk_true hf
    have hr := Lib.hid (show digRes a b = digitsOf b (b - a).toNat by unfold digRes; rw [if_pos hf])
    have hc := Lib.hid (show digCode a b = 0 by unfold digCode; rw [if_pos hf])
    go_enter Try.func30, Try.ntmps30
    go_wp2_with fail
    refine (l02Field_any _ _ _ _).mono ?_; rintro e w1 ⟨rfl, hb1⟩
    have k0 : w1.cell? ⟨w.heap.size, 0, none⟩ = some (.int .i64 a) := cell_later hb1 (by simp)
    have k1 : w1.cell? ⟨w.heap.size, 1, none⟩ = some (.int .i64 b) := cell_later hb1 (by simp)
    have hz := hb1.size
    simp only [World.size_alloc] at hz
    have hzlt : w.heap.size < w1.heap.size := by omega
    have T1 : Below w.heap.size w w1 := bs (ba (b0 _) _) hb1
    go_wp2
    go_loopw [4, 5] (fun v q wr => ∃ (j : Nat) (A : Option Addr) (n c : Nat), j ≤ (b - a).toNat ∧ q = .int .i64 (b - 1 - j) ∧ v = .slice A n c ∧ n = (digitsOf b j).length ∧ wr.ownsRow w1.heap.size 77 2 (.slice A n c) n (prs (digitsOf b j)) ∧ Below w1.heap.size w1 wr)
      (fun _ q _ => (intOf q + 1).toNat)
    case atStart => exact ⟨0, _, 0, 0, Nat.zero_le _, by go_num, rfl, rfl, own_lit _ #[] 0 (by simp) (by simp) (by omega) rfl, (Below.refl _ _).alloc (by simp) _⟩
    case round =>
      obtain ⟨j, A, n, c, hj, rfl, rfl, hn, hown, hbw⟩ := hrel
      have hn2 : n ≤ 40 := by rw [hn, digitsOf_length]; omega
      have HN := Lib.hid hn
      clear hn
      have hsz := hbw.size
      replace k0 := cell_later hbw k0
      replace k1 := cell_later hbw k1
      by_cases hlt : j < (b - a).toNat
      · have h3 : a ≤ b - 1 - (j : Int) := by omega
        go_wp2_with (at_builtin; refine wpList_ap rfl (.tmp 19) (.tmp 22) 24 rfl w1.heap.size 77 i0 _ 2 16 Try.underlying24 hi hz0 hz1 hz2 rfl (by omega) A n c _ rfl wr hown 1 _ _ rfl rfl rfl (prs_one [(b - 1 - (j : Int), 1)]) (by omega) (by omega) (by omega) (by omega) ?_; intro g cap w2 hown1 hb2 _ _ _)
        go_roundw
        case rel => exact ⟨j + 1, _, _, _, by omega, by go_num, rfl, by rw [HN.out, digitsOf_succ, List.length_append]; rfl, by rw [digitsOf_succ, prs_append]; exact hown1, hbw.trans hb2⟩
        case measure => simp [intOf]; omega
      · have h3 : ¬ (a ≤ b - 1 - (j : Int)) := by omega
        have hke := Lib.hid (show (b - a).toNat = j by omega)
        clear hlt hn2
        go_wp2
        go_ret2
        have hn := HN.out
        subst hn
        rw [hr.out, hc.out, hke.out]
        exact ⟨A, c, rfl, own_base hown (by omega), bs T1 hbw⟩
  · have hff : fieldOk a b 20 = false := by simpa using hf
    have hr := Lib.hid (show digRes a b = [] by unfold digRes; rw [if_neg hf])
    have hc := Lib.hid (show digCode a b = 2 by unfold digCode; rw [if_neg hf])
    go_enter Try.func30, Try.ntmps30
    go_wp2_with fail
    refine (l02Field_any _ _ _ _).mono ?_; rintro e w1 ⟨rfl, hb1⟩
    go_wp2
    go_ret2
    rw [hr.out, hc.out]
    exact ⟨none, 0, rfl, World.ownsRow_nil _ _ _ _, bs (ba (b0 _) _) hb1⟩
end Go.Proofs.Ytckgicekpkgcnaa
