/- spec.l01Number: the number with a decimal text. -/
import Derived.Test.YtkmejkeanmjfbaaGreatDoorKd19
import Derived.Test.YtkmejkeanmjfbaaGreatDoorKd20
import Derived.Deep.DeepCutAuto
/-! ### RNumW -/
namespace Go.Proofs.YtkmejkeanmjfbaaGreatDoor
open Go.RowKit

def led (s : ByteArray) : Bool := (byt s).head? == some 45
theorem em_t {s : ByteArray} (h : s.size = 0) : s.toList.isEmpty = true := by
  have hs : s = ⟨#[]⟩ := by
    apply ByteArray.ext
    exact Array.eq_empty_of_size_eq_zero h
  rw [hs, Lib.toList_data]; rfl
theorem em_f {s : ByteArray} (h : ¬ s.size = 0) : s.toList.isEmpty = false := by
  have h1 := ba_list_f (s := s) (t := ⟨#[]⟩) (fun e => h (by rw [e]; rfl))
  rw [show (⟨#[]⟩ : ByteArray).toList = [] from Lib.toList_data _] at h1
  cases hl : s.toList with
  | nil => rw [hl] at h1; simp at h1
  | cons a l => rfl
theorem head_byt {s : ByteArray} (h : 0 < s.size) : (byt s).head? = some s[0] := by
  have h1 : 0 < (byt s).length := by rw [byt_size]; exact h
  rw [List.head?_eq_getElem?, List.getElem?_eq_getElem h1, byt_at s 0 h]
theorem tail_byt (s : ByteArray) : byt (s.extract 1 s.size) = (byt s).drop 1 := by
  rw [byt_ext, List.take_of_length_le (by rw [byt_size]; omega)]
/-- What a text without its sign is. -/
def RestP (s t : ByteArray) : Prop := (led s = false ∧ t = s) ∨ (led s = true ∧ 0 < s.size ∧ t = s.extract 1 s.size)
theorem rest_no {s t : ByteArray} (h : RestP s t) (k : NoT (byt t)) : NoT (byt s) := by
  rcases h with ⟨_, rfl⟩ | ⟨h1, _, _⟩
  · exact k
  · exact noT_minus (by simpa [led] using h1)
theorem rest_len {s t : ByteArray} (h : RestP s t) : t.size ≤ s.size ∧ decide (t.size < s.size) = led s := by
  rcases h with ⟨h0, rfl⟩ | ⟨h1, h2, rfl⟩
  · rw [h0]; simp
  · rw [h1]
    have : (s.extract 1 s.size).size = s.size - 1 := by simp
    rw [this]
    simp
    omega
def NmR (t : ByteArray) (n i : Value) : Prop := ∃ k : Nat, k ≤ t.size ∧ i = .int .i64 k ∧ n = .int .i64 (valD ((byt t).take k) : Nat) ∧ digL ((byt t).take k) = true
theorem num_end {s t : ByteArray} {z : Int} (h : RestP s t) (hz : z = if led s = true then -(valD (byt t) : Int) else (valD (byt t) : Int)) (hr : valD (byt t) < 10 ^ 18) :
    (bs_ (Lib.itoa z) = s → NumP (byt s) (.returned (.tuple #[.int .i64 z, .bool true]))) ∧ (¬ bs_ (Lib.itoa z) = s → NoT (byt s)) := by
  refine ⟨fun e => .inl ⟨z, rfl, ?_, ?_⟩, fun e => ?_⟩
  · rw [← e, byt_bs]
  · split at hz <;> omega
  · rcases h with ⟨h0, rfl⟩ | ⟨h1, _, _⟩
    · rw [h0, if_neg (by simp)] at hz
      refine noT_val fun e2 => e ?_
      rw [hz, e2, bs_byt]
    · exact noT_minus (by simpa [led] using h1)

set_option maxRecDepth 20000 in
set_option maxHeartbeats 4000000 in
theorem l01Number_any (s : ByteArray) (w : World) (hl : s.size ≤ 1048576) :
    Calls Tryz.prog 64 #[.string s] w fun e w' => NumP (byt s) e ∧ Below w.heap.size w w' := by
  go_enter Tryz.func64, Tryz.ntmps64
  go_upto_region 2 with fail
  go_cut [14] (fun s14 wx => s14 = .bool (led s) ∧ wx = w)
  case first =>
    by_cases h0 : s.size = 0
    · have e1 := em_t h0
      have HL := Lib.hid (show led s = false by unfold led; rw [List.eq_nil_of_length_eq_zero (show (byt s).length = 0 by rw [byt_size]; exact h0)]; rfl)
      go_wp2
      go_meet
      exact ⟨by rw [HL.out], rfl⟩
    · have e1 := em_f h0
      have i0 : 0 < s.size := by omega
      have HL := Lib.hid (show led s = ((s[0].toNat : Int) == 45) by
        unfold led
        rw [head_byt i0]
        by_cases h : s[0] = 45
        · rw [h]; rfl
        · rw [beq_f (fun e => h (UInt8.toNat_inj.1 (by rw [show (45 : UInt8).toNat = 45 from rfl]; omega)))]
          simpa using h)
      go_wp2
      go_meet
      exact ⟨by rw [HL.out], rfl⟩
  case rest =>
    obtain ⟨rfl, rfl⟩ := hcut
    go_upto_if 14 with fail
    go_cut [4] (fun s4 wx => ∃ t, s4 = .string t ∧ RestP s t ∧ wx = wc)
    case first =>
      cases hL : led s with
      | true =>
        have i0 : 0 < s.size := by
          rcases Nat.eq_zero_or_pos s.size with h0 | h0
          · unfold led at hL
            rw [List.eq_nil_of_length_eq_zero (show (byt s).length = 0 by rw [byt_size]; exact h0)] at hL
            cases hL
          · exact h0
        go_wp2
        go_meet
        exact ⟨_, rfl, .inr ⟨hL, i0, rfl⟩, rfl⟩
      | false =>
        go_wp2
        go_meet
        exact ⟨_, rfl, .inl ⟨hL, rfl⟩, rfl⟩
    case rest =>
      obtain ⟨t, rfl, hrest, rfl⟩ := hcut
      obtain ⟨hts, hdl⟩ := rest_len hrest
      have HR := Lib.hid hrest
      by_cases hsz : 1 ≤ t.size ∧ t.size ≤ 18
      · obtain ⟨n1, n2⟩ := hsz
        have g1 : decide ((t.size : Int) < 1) = false := decide_eq_false (by omega)
        have g2 : decide ((18 : Int) < (t.size : Int)) = false := decide_eq_false (by omega)
        clear hrest
        go_wp2
        go_loop [5, 6] (fun n i => NmR t n i) (fun _ i => t.size - (intOf i).toNat)
        case atStart => exact ⟨0, Nat.zero_le _, rfl, rfl, rfl⟩
        case round =>
          obtain ⟨k, hk, rfl, rfl, hdg⟩ := hrel
          by_cases hlt : k < t.size
          · have HKL := Lib.hid (show k < (byt t).length by rw [byt_size]; exact hlt)
            have HAT := Lib.hid (byt_at t k hlt)
            have HV := Lib.hid (valD_lt (byt t) k (Nat.le_of_lt HKL.out) hdg)
            have HTS := Lib.hid (show (byt t).take (k + 1) = (byt t).take k ++ [t[k]] by rw [List.take_succ_eq_append_getElem HKL.out]; rfl)
            have HDG := Lib.hid hdg
            clear hdg
            cases hp : digB (t[k].toNat : Int) with
            | true =>
              have HP := Lib.hid (digB_range hp)
              have HD2 := Lib.hid (show digL ((byt t).take (k + 1)) = true by rw [HTS.out, digL_snoc, HDG.out, hp]; rfl)
              obtain ⟨v, hv⟩ : ∃ v, v = valD ((byt t).take k) := ⟨_, rfl⟩
              have HV2 := Lib.hid (show valD ((byt t).take (k + 1)) = 10 * v + (t[k].toNat - 48) by rw [HTS.out, valD_snoc, hv])
              rw [← hv] at HV
              have HVB := Lib.hid (show v < 10 ^ 17 from Nat.lt_of_lt_of_le HV.out (Nat.pow_le_pow_right (by omega) (by omega)))
              have HC := Lib.hid (show ((t[k].toNat : Int) - 48) % 256 = (t[k].toNat : Int) - 48 by have := HP.out; omega)
              have HW := Lib.hid (show wrap64 (wrap64 (10 * (v : Int)) + (((t[k].toNat : Int) - 48) % 256)) = ((valD ((byt t).take (k + 1)) : Nat) : Int) by
                rw [HC.out, HV2.out]
                have := HP.out
                have := HVB.out
                unfold wrap64
                omega)
              rw [← hv]
              clear hv
              go_wp2_with fail
              refine (l01Digit_any (t[k].toNat : Int) _).mono ?_; rintro e w1 ⟨rfl, rfl⟩
              rw [hp]
              clear hp
              go_wp2
              exact ⟨⟨k + 1, by omega, by go_num, congrArg (Value.int .i64) HW.out, HD2.out⟩, by simp [intOf]; omega⟩
            | false =>
              have HN := Lib.hid (rest_no HR.out (noT_digit (digL_bad (k := k) HKL.out (by rw [HAT.out]; exact hp))))
              go_wp2_with fail
              refine (l01Digit_any (t[k].toNat : Int) _).mono ?_; rintro e w1 ⟨rfl, rfl⟩
              rw [hp]
              clear hp
              go_wp2
              go_ret2
              exact ⟨.inr ⟨rfl, HN.out⟩, b0 _⟩
          · obtain rfl : k = t.size := by omega
            have HTA := Lib.hid (show (byt t).take t.size = byt t from List.take_of_length_le (by rw [byt_size]; omega))
            have HVB := Lib.hid (show valD (byt t) < 10 ^ 18 by
              have := valD_lt (byt t) t.size (by rw [byt_size]; omega) hdg
              rw [HTA.out] at this
              exact Nat.lt_of_lt_of_le this (Nat.pow_le_pow_right (by omega) (by omega)))
            rw [HTA.out]
            clear hdg
            obtain ⟨v, hv⟩ : ∃ v, v = valD (byt t) := ⟨_, rfl⟩
            have HE := Lib.hid (fun (z : Int) (h : z = if led s = true then -(valD (byt t) : Int) else (valD (byt t) : Int)) => num_end HR.out h HVB.out)
            rw [← hv] at HE HVB ⊢
            clear hv
            cases hL : led s with
            | true =>
              rw [hL] at HE hdl
              have g3 : (t.size : Int) < (s.size : Int) := by have := of_decide_eq_true hdl; omega
              obtain ⟨E1, E2⟩ := HE.out (-(v : Int)) (if_pos rfl).symm
              have HE1 := Lib.hid E1
              have HE2 := Lib.hid E2
              have HB := Lib.hid (show -9223372036854775808 ≤ -(v : Int) ∧ -(v : Int) ≤ 9223372036854775807 by have := HVB.out; omega)
              have HWR := Lib.hid (show wrap64 (-(v : Int)) = -(v : Int) by have := HVB.out; unfold wrap64; omega)
              clear E1 E2 HE hdl
              go_wp2_with fail
              rw [HWR.out]
              refine (l01Dec_any (-(v : Int)) _ HB.out.1 HB.out.2).mono ?_
              rintro e w1 ⟨rfl, hb1⟩
              by_cases he : bs_ (Lib.itoa (-(v : Int))) = s
              · have e4 := ba_list_t he
                have HN := Lib.hid (HE1.out he)
                clear he
                go_wp2
                go_ret2
                exact ⟨HN.out, hb1⟩
              · have e4 := ba_list_f he
                have HN := Lib.hid (HE2.out he)
                clear he
                go_wp2
                go_ret2
                exact ⟨.inr ⟨rfl, HN.out⟩, hb1⟩
            | false =>
              rw [hL] at HE hdl
              have g3 : ¬ (t.size : Int) < (s.size : Int) := by have := of_decide_eq_false hdl; omega
              obtain ⟨E1, E2⟩ := HE.out (v : Int) (if_neg (by simp)).symm
              have HE1 := Lib.hid E1
              have HE2 := Lib.hid E2
              have HB := Lib.hid (show -9223372036854775808 ≤ (v : Int) ∧ (v : Int) ≤ 9223372036854775807 by have := HVB.out; omega)
              clear E1 E2 HE hdl
              go_wp2_with fail
              refine (l01Dec_any (v : Int) _ HB.out.1 HB.out.2).mono ?_
              rintro e w1 ⟨rfl, hb1⟩
              by_cases he : bs_ (Lib.itoa (v : Int)) = s
              · have e4 := ba_list_t he
                have HN := Lib.hid (HE1.out he)
                clear he
                go_wp2
                go_ret2
                exact ⟨HN.out, hb1⟩
              · have e4 := ba_list_f he
                have HN := Lib.hid (HE2.out he)
                clear he
                go_wp2
                go_ret2
                exact ⟨.inr ⟨rfl, HN.out⟩, hb1⟩
      · have HN := Lib.hid (rest_no HR.out (noT_len (by rw [byt_size]; omega)))
        by_cases g0 : t.size < 1
        · have g1 : decide ((t.size : Int) < 1) = true := decide_eq_true (by omega)
          go_wp2
          go_ret2
          exact ⟨.inr ⟨rfl, HN.out⟩, b0 _⟩
        · have g1 : decide ((t.size : Int) < 1) = false := decide_eq_false (by omega)
          have g2 : decide ((18 : Int) < (t.size : Int)) = true := decide_eq_true (by omega)
          go_wp2
          go_ret2
          exact ⟨.inr ⟨rfl, HN.out⟩, b0 _⟩
end Go.Proofs.YtkmejkeanmjfbaaGreatDoor
