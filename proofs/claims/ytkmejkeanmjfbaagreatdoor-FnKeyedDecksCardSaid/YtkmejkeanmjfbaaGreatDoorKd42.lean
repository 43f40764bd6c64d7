/- l05Runs and ProgramRuns, in the reference. -/
import Derived.Test.YtkmejkeanmjfbaaGreatDoorKd36
import Derived.Test.YtkmejkeanmjfbaaGreatDoorKd41
/-! ### RunsSp2 -/
namespace Go.Proofs.YtkmejkeanmjfbaaGreatDoor
open Go.RowKit

theorem join_one_more (L : List (List UInt8)) (x sep : List UInt8) : Lib.join (L ++ [x]) sep = if L = [] then x else Lib.join L sep ++ sep ++ x := by
  cases L with
  | nil => simp [Lib.join_one]
  | cons y L => rw [if_neg (by simp), List.cons_append, Lib.join_cons, Lib.join_cons]; simp [Lib.joinTail]
theorem join_some {rs : List (UInt8 × Nat)} (h : rs ≠ []) : 0 < (Lib.join (rs.map wordOf) [32]).length := by
  cases rs with
  | nil => exact absurd rfl h
  | cons a r =>
    rw [List.map_cons, Lib.join_cons, List.length_append]
    have : 0 < (wordOf a).length := by unfold wordOf; simp
    omega
def L5R (s : ByteArray) (w wr : World) (o q : Value) : Prop := ∃ (i : Nat) (rs : List (UInt8 × Nat)), i ≤ s.size ∧ q = .int .i64 i ∧ o = .string (bs_ (Lib.join (rs.map wordOf) [32])) ∧ RunP (byt s) i rs ∧ Below w.heap.size w wr
theorem runs_len {s : ByteArray} {i : Nat} {rs : List (UInt8 × Nat)} (h : RunP (byt s) i rs) (hi : i ≤ s.size) (hs : s.size ≤ 21) : (Lib.join (rs.map wordOf) [32]).length ≤ 84 := by
  have hc := h.cnt
  have h3 : ∀ x ∈ rs.map wordOf, x.length ≤ 3 := fun x hx => by
    obtain ⟨r, hr, rfl⟩ := List.mem_map.1 hx
    have h1 := expand_len hr
    have h2 := congrArg List.length h.pre
    rw [List.length_take, byt_size] at h2
    unfold wordOf t20
    split <;> simp
  have := join_short h3
  rw [List.length_map] at this
  omega
set_option maxRecDepth 20000 in
set_option maxHeartbeats 8000000 in
theorem l05Runs_any (s : ByteArray) (w : World) (hl : s.size ≤ 21) :
    Calls Tryz.prog 58 #[.string s] w fun e w' => e = .returned (.string (bs_ (runsT (byt s)))) ∧ Below w.heap.size w w' := by
  go_enter Tryz.func58, Tryz.ntmps58
  go_wp2
  go_loopw [3, 4, 5] (fun o q _ wr => L5R s w wr o q) (fun _ q _ _ => s.size - (intOf q).toNat)
  case atStart => exact ⟨0, [], Nat.zero_le _, rfl, rfl, RunP.zero _, b0 w⟩
  case round =>
    obtain ⟨wo, rfl⟩ : ∃ wo : World, wo = wr := ⟨_, rfl⟩
    obtain ⟨i, rs, hi, rfl, rfl, hrun, hbw⟩ := hrel
    have HB0 := Lib.hid hbw
    have HRUN := Lib.hid hrun
    obtain ⟨J, hJ⟩ : ∃ J, J = Lib.join (rs.map wordOf) [32] := ⟨_, rfl⟩
    have HJ := Lib.hid hJ
    have HJL := Lib.hid (show J.length ≤ 84 by rw [hJ]; exact runs_len hrun hi hl)
    rw [← hJ]
    clear hbw hrun hJ
    by_cases hlt : i < s.size
    · have HIL := Lib.hid (show i < (byt s).length by rw [byt_size]; exact hlt)
      obtain ⟨c, hc⟩ : ∃ c, c = s[i] := ⟨_, rfl⟩
      have HC := Lib.hid (show c = (byt s)[i]'HIL.out from hc)
      have HCC := Lib.hid hc
      have HT1 := Lib.hid (show (byt s).take (i + 1) = (byt s).take i ++ List.replicate 1 c by
        rw [List.take_succ_eq_append_getElem HIL.out, HC.out]; rfl)
      clear hc
      go_wp2
      go_loopw [5] (fun q wr => ∃ N : Nat, 1 ≤ N ∧ i + N ≤ s.size ∧ q = .int .i64 N ∧ (byt s).take (i + N) = (byt s).take i ++ List.replicate N c ∧ Below wo.heap.size wo wr) (fun q _ => s.size - (intOf q).toNat)
      case atStart => exact ⟨1, Nat.le_refl _, hlt, rfl, HT1.out, b0 _⟩
      case round =>
        obtain ⟨wi, rfl⟩ : ∃ wi : World, wi = wr := ⟨_, rfl⟩
        obtain ⟨N, hN1, hks, rfl, htk, hbi⟩ := hrel
        obtain ⟨k, hk⟩ : ∃ k, k = i + N := ⟨_, rfl⟩
        have HK := Lib.hid hk
        rw [← hk] at htk hks
        have HTK := Lib.hid htk
        have HBI := Lib.hid hbi
        have hwk : wrap64 ((i : Int) + (N : Int)) = (k : Int) := by unfold wrap64; omega
        have hwk2 : IntKind.i64.wrap ((i : Int) + (N : Int)) = (k : Int) := by rw [IntKind.wrap_i64]; omega
        clear htk hbi hk
        rcases (show (k < s.size ∧ ∃ h : k < s.size, s[k] = c) ∨ (k < s.size ∧ ∃ h : k < s.size, ¬ s[k] = c) ∨ k = s.size by
          by_cases hk : k < s.size
          · by_cases hsc : s[k] = c
            · exact .inl ⟨hk, hk, hsc⟩
            · exact .inr (.inl ⟨hk, hk, hsc⟩)
          · exact .inr (.inr (by omega))) with ⟨hk, _, hsc⟩ | hex
        · have i1 : (k : Int) < (s.size : Int) := by omega
          have e5 := beq_t (show (s[k].toNat : Int) = (s[i].toNat : Int) by rw [hsc, HCC.out])
          have HKL := Lib.hid (show k < (byt s).length by rw [byt_size]; exact hk)
          have HT2 := Lib.hid (show (byt s).take (i + (N + 1)) = (byt s).take i ++ List.replicate (N + 1) c by
            rw [← Nat.add_assoc, ← HK.out, List.take_succ_eq_append_getElem HKL.out, HTK.out, List.replicate_succ', ← List.append_assoc, byt_at s k hk, hsc])
          have hN2 : i + (N + 1) ≤ s.size := by have := HK.out; omega
          clear hsc
          go_wp2_with fail
          refine wp_region_later (by kernel_rfl) (by kernel_rfl) ?_
          repeat (go_big_quiet_step (fail))
          refine wpQuiet_nil ?_
          intro wt hbt
          have HB2 := Lib.hid (bs HBI.out hbt)
          clear hbt
          go_wp2
          go_roundw
          case rel => exact ⟨N + 1, by omega, hN2, by go_num, HT2.out, HB2.out⟩
          case measure => (simp [intOf]; try omega)
        · have HFAR := Lib.hid (show ∀ h : k < (byt s).length, ¬ (byt s)[k] = c from fun h => by
            rcases hex with ⟨_, hk, hne⟩ | rfl
            · exact hne
            · rw [byt_size] at h; omega)
          have HNX := Lib.hid (show RunP (byt s) k (rs ++ [(c, N)]) from by
            have := HRUN.out.next (k := k) HIL.out HC.out (by have := HK.out; omega) (by rw [show k - i = N by have := HK.out; omega]; exact HTK.out) HFAR.out
            rw [show k - i = N by have := HK.out; omega] at this
            exact this)
          have hN21 : N ≤ 21 := by have := HK.out; omega
          obtain ⟨I, hI⟩ : ∃ I, I = i + 1 := ⟨_, rfl⟩
          have hwi : IntKind.i64.wrap ((i : Int) + 1) = (I : Int) := by rw [IntKind.wrap_i64]; omega
          have hwi2 : wrap64 ((i : Int) + 1) = (I : Int) := by unfold wrap64; omega
          have hI1 : (I : Int) ≤ (s.size : Int) := by omega
          have hI2 : (i : Int) ≤ (I : Int) := by omega
          have HX := Lib.hid (show s.extract i I = bs_ [c] from ext_bs (by
            rw [hI]
            rw [List.take_succ_eq_append_getElem HIL.out, List.drop_append_of_le_length (by rw [List.length_take]; have := HIL.out; omega), List.drop_of_length_le (by rw [List.length_take]; omega), List.nil_append, HC.out]))
          have hmin : min I s.size - i = 1 := by omega
          have HDL := Lib.hid (show (t20 N).length ≤ 2 by unfold t20; split <;> simp)
          have HDC := Lib.hid (fun V => l01Dec_any (N : Int) V (by omega) (by omega))
          rw [itoa_t20 (by omega)] at HDC
          have HWD := Lib.hid (show s.extract i I ++ bs_ (t20 N) = bs_ (wordOf (c, N)) by rw [HX.out, cat_bs]; rfl)
          have HBWI := Lib.hid (HB0.out.trans (HBI.out.mono HB0.out.size))
          have HJN := Lib.hid (show Lib.join ((rs ++ [(c, N)]).map wordOf) [32] = if rs = [] then wordOf (c, N) else J ++ [32] ++ wordOf (c, N) by
            rw [List.map_append, List.map_cons, List.map_nil, join_one_more, HJ.out]
            simp)
          clear hI
          -- TAIL
          rcases hex with ⟨hk, _, hne⟩ | rfl
          · have i1 : (k : Int) < (s.size : Int) := by omega
            have e5 := beq_f (show ¬ (s[k].toNat : Int) = (s[i].toNat : Int) from fun e => hne (by rw [HCC.out]; exact UInt8.toNat_inj.1 (by omega)))
            clear hne
            by_cases hrs : rs = []
            · have hJ0 : J = [] := by rw [HJ.out, hrs]; rfl
              have e1 := em_t (s := bs_ J) (by rw [hJ0]; rfl)
              have HO := Lib.hid (show bs_ J ++ bs_ (wordOf (c, N)) = bs_ (Lib.join ((rs ++ [(c, N)]).map wordOf) [32]) by rw [HJN.out, if_pos hrs, cat_bs, hJ0]; rfl)
              have hz2 : ¬ 9223372036854775807 < (bs_ J).size + (1 + (bs_ (t20 N)).size) := by rw [bs_size, bs_size]; have := HJL.out; have := HDL.out; omega
              have hz1 : ¬ 9223372036854775807 < 1 + (bs_ (t20 N)).size := by rw [bs_size]; have := HDL.out; omega
              clear hrs hJ0
              go_wp2_with fail
              refine wp_region_later (by kernel_rfl) (by kernel_rfl) ?_
              repeat (go_big_quiet_step (fail))
              refine wpQuiet_nil ?_
              intro wt hbt
              have HBt := Lib.hid (HBWI.out.trans (hbt.mono HBWI.out.size))
              clear hbt
              go_wp2_with fail
              refine wp_region_later (by kernel_rfl) (by kernel_rfl) ?_
              repeat (go_big_quiet_step ((go_at_call 99; exact lat_call (HDC.out _))))
              refine wpQuiet_nil ?_
              intro wu hbu
              have HBu := Lib.hid (HBt.out.trans (hbu.mono HBt.out.size))
              clear hbu
              go_wp2
              go_roundw
              case rel =>
                have P : L5R s w wu (.string (bs_ J ++ (s.extract i I ++ bs_ (t20 N)))) (.int .i64 (k : Int)) := ⟨k, rs ++ [(c, N)], hks, rfl, by rw [HWD.out, HO.out], HNX.out, HBu.out⟩
                first | exact P | exact ⟨_, P, rfl⟩ | exact ⟨_, _, P, rfl, rfl⟩ | exact ⟨_, _, _, P, rfl, rfl, rfl⟩ | exact ⟨_, _, _, _, P, rfl, rfl, rfl, rfl⟩ | exact ⟨_, _, _, _, _, P, rfl, rfl, rfl, rfl, rfl⟩ | exact ⟨_, _, _, _, _, _, P, rfl, rfl, rfl, rfl, rfl, rfl⟩ | exact ⟨_, _, _, _, _, _, _, P, rfl, rfl, rfl, rfl, rfl, rfl, rfl⟩ | exact ⟨_, _, _, _, _, _, _, _, P, rfl, rfl, rfl, rfl, rfl, rfl, rfl, rfl⟩
              case measure => (simp [intOf]; have := HK.out; try omega)
            · have e1 := em_f (s := bs_ J) (by rw [bs_size, HJ.out]; have := join_some hrs; omega)
              have HO := Lib.hid (show bs_ J ++ (⟨#[32]⟩ : ByteArray) ++ bs_ (wordOf (c, N)) = bs_ (Lib.join ((rs ++ [(c, N)]).map wordOf) [32]) by rw [HJN.out, if_neg hrs, show (⟨#[32]⟩ : ByteArray) = bs_ [32] from rfl, cat_bs, cat_bs])
              have hz2 : ¬ 9223372036854775807 < (bs_ J).size + 1 := by rw [bs_size]; have := HJL.out; omega
              have hz3 : ¬ 9223372036854775807 < (bs_ J).size + 1 + (1 + (bs_ (t20 N)).size) := by rw [bs_size, bs_size]; have := HJL.out; have := HDL.out; omega
              have hz1 : ¬ 9223372036854775807 < 1 + (bs_ (t20 N)).size := by rw [bs_size]; have := HDL.out; omega
              clear hrs
              go_wp2_with fail
              refine wp_region_later (by kernel_rfl) (by kernel_rfl) ?_
              repeat (go_big_quiet_step (fail))
              refine wpQuiet_nil ?_
              intro wt hbt
              have HBt := Lib.hid (HBWI.out.trans (hbt.mono HBWI.out.size))
              clear hbt
              go_wp2_with fail
              refine wp_region_later (by kernel_rfl) (by kernel_rfl) ?_
              repeat (go_big_quiet_step ((go_at_call 99; exact lat_call (HDC.out _))))
              refine wpQuiet_nil ?_
              intro wu hbu
              have HBu := Lib.hid (HBt.out.trans (hbu.mono HBt.out.size))
              clear hbu
              go_wp2
              go_roundw
              case rel =>
                have P : L5R s w wu (.string (bs_ J ++ (⟨#[32]⟩ : ByteArray) ++ (s.extract i I ++ bs_ (t20 N)))) (.int .i64 (k : Int)) := ⟨k, rs ++ [(c, N)], hks, rfl, by rw [HWD.out, HO.out], HNX.out, HBu.out⟩
                first | exact P | exact ⟨_, P, rfl⟩ | exact ⟨_, _, P, rfl, rfl⟩ | exact ⟨_, _, _, P, rfl, rfl, rfl⟩ | exact ⟨_, _, _, _, P, rfl, rfl, rfl, rfl⟩ | exact ⟨_, _, _, _, _, P, rfl, rfl, rfl, rfl, rfl⟩ | exact ⟨_, _, _, _, _, _, P, rfl, rfl, rfl, rfl, rfl, rfl⟩ | exact ⟨_, _, _, _, _, _, _, P, rfl, rfl, rfl, rfl, rfl, rfl, rfl⟩ | exact ⟨_, _, _, _, _, _, _, _, P, rfl, rfl, rfl, rfl, rfl, rfl, rfl, rfl⟩
              case measure => (simp [intOf]; have := HK.out; try omega)
          · have hdum : True := trivial
            by_cases hrs : rs = []
            · have hJ0 : J = [] := by rw [HJ.out, hrs]; rfl
              have e1 := em_t (s := bs_ J) (by rw [hJ0]; rfl)
              have HO := Lib.hid (show bs_ J ++ bs_ (wordOf (c, N)) = bs_ (Lib.join ((rs ++ [(c, N)]).map wordOf) [32]) by rw [HJN.out, if_pos hrs, cat_bs, hJ0]; rfl)
              have hz2 : ¬ 9223372036854775807 < (bs_ J).size + (1 + (bs_ (t20 N)).size) := by rw [bs_size, bs_size]; have := HJL.out; have := HDL.out; omega
              have hz1 : ¬ 9223372036854775807 < 1 + (bs_ (t20 N)).size := by rw [bs_size]; have := HDL.out; omega
              clear hrs hJ0
              go_wp2_with fail
              refine wp_region_later (by kernel_rfl) (by kernel_rfl) ?_
              repeat (go_big_quiet_step (fail))
              refine wpQuiet_nil ?_
              intro wt hbt
              have HBt := Lib.hid (HBWI.out.trans (hbt.mono HBWI.out.size))
              clear hbt
              go_wp2_with fail
              refine wp_region_later (by kernel_rfl) (by kernel_rfl) ?_
              repeat (go_big_quiet_step ((go_at_call 99; exact lat_call (HDC.out _))))
              refine wpQuiet_nil ?_
              intro wu hbu
              have HBu := Lib.hid (HBt.out.trans (hbu.mono HBt.out.size))
              clear hbu
              go_wp2
              go_roundw
              case rel =>
                have P : L5R s w wu (.string (bs_ J ++ (s.extract i I ++ bs_ (t20 N)))) (.int .i64 ((s.size : Nat) : Int)) := ⟨s.size, rs ++ [(c, N)], hks, rfl, by rw [HWD.out, HO.out], HNX.out, HBu.out⟩
                first | exact P | exact ⟨_, P, rfl⟩ | exact ⟨_, _, P, rfl, rfl⟩ | exact ⟨_, _, _, P, rfl, rfl, rfl⟩ | exact ⟨_, _, _, _, P, rfl, rfl, rfl, rfl⟩ | exact ⟨_, _, _, _, _, P, rfl, rfl, rfl, rfl, rfl⟩ | exact ⟨_, _, _, _, _, _, P, rfl, rfl, rfl, rfl, rfl, rfl⟩ | exact ⟨_, _, _, _, _, _, _, P, rfl, rfl, rfl, rfl, rfl, rfl, rfl⟩ | exact ⟨_, _, _, _, _, _, _, _, P, rfl, rfl, rfl, rfl, rfl, rfl, rfl, rfl⟩
              case measure => (simp [intOf]; have := HK.out; try omega)
            · have e1 := em_f (s := bs_ J) (by rw [bs_size, HJ.out]; have := join_some hrs; omega)
              have HO := Lib.hid (show bs_ J ++ (⟨#[32]⟩ : ByteArray) ++ bs_ (wordOf (c, N)) = bs_ (Lib.join ((rs ++ [(c, N)]).map wordOf) [32]) by rw [HJN.out, if_neg hrs, show (⟨#[32]⟩ : ByteArray) = bs_ [32] from rfl, cat_bs, cat_bs])
              have hz2 : ¬ 9223372036854775807 < (bs_ J).size + 1 := by rw [bs_size]; have := HJL.out; omega
              have hz3 : ¬ 9223372036854775807 < (bs_ J).size + 1 + (1 + (bs_ (t20 N)).size) := by rw [bs_size, bs_size]; have := HJL.out; have := HDL.out; omega
              have hz1 : ¬ 9223372036854775807 < 1 + (bs_ (t20 N)).size := by rw [bs_size]; have := HDL.out; omega
              clear hrs
              go_wp2_with fail
              refine wp_region_later (by kernel_rfl) (by kernel_rfl) ?_
              repeat (go_big_quiet_step (fail))
              refine wpQuiet_nil ?_
              intro wt hbt
              have HBt := Lib.hid (HBWI.out.trans (hbt.mono HBWI.out.size))
              clear hbt
              go_wp2_with fail
              refine wp_region_later (by kernel_rfl) (by kernel_rfl) ?_
              repeat (go_big_quiet_step ((go_at_call 99; exact lat_call (HDC.out _))))
              refine wpQuiet_nil ?_
              intro wu hbu
              have HBu := Lib.hid (HBt.out.trans (hbu.mono HBt.out.size))
              clear hbu
              go_wp2
              go_roundw
              case rel =>
                have P : L5R s w wu (.string (bs_ J ++ (⟨#[32]⟩ : ByteArray) ++ (s.extract i I ++ bs_ (t20 N)))) (.int .i64 ((s.size : Nat) : Int)) := ⟨s.size, rs ++ [(c, N)], hks, rfl, by rw [HWD.out, HO.out], HNX.out, HBu.out⟩
                first | exact P | exact ⟨_, P, rfl⟩ | exact ⟨_, _, P, rfl, rfl⟩ | exact ⟨_, _, _, P, rfl, rfl, rfl⟩ | exact ⟨_, _, _, _, P, rfl, rfl, rfl, rfl⟩ | exact ⟨_, _, _, _, _, P, rfl, rfl, rfl, rfl, rfl⟩ | exact ⟨_, _, _, _, _, _, P, rfl, rfl, rfl, rfl, rfl, rfl⟩ | exact ⟨_, _, _, _, _, _, _, P, rfl, rfl, rfl, rfl, rfl, rfl, rfl⟩ | exact ⟨_, _, _, _, _, _, _, _, P, rfl, rfl, rfl, rfl, rfl, rfl, rfl, rfl⟩
              case measure => (simp [intOf]; have := HK.out; try omega)
    · obtain rfl : i = s.size := by omega
      have HRL := Lib.hid (show runsL (byt s) = rs from RunP.fin (by rw [byt_size]; exact HRUN.out))
      have HO2 := Lib.hid (show bs_ J = bs_ (runsT (byt s)) by unfold runsT; rw [HRL.out, HJ.out])
      go_wp2
      go_ret
      exact ⟨by rw [HO2.out]; rfl, HB0.out⟩
theorem spProgramRuns_any (s : ByteArray) (w : World) (hl : s.size ≤ 21) :
    Calls Tryz.prog 22 #[.string s] w fun e w' => e = .returned (.string (bs_ (runsO s))) ∧ Below w.heap.size w w' := by
  have HOK := Lib.hid (fun V => l05Ok_any s V (by omega))
  cases hp : progB s with
  | true =>
    have HE := Lib.hid (show runsO s = runsT (byt s) by unfold runsO; rw [if_pos hp])
    rw [hp] at HOK
    clear hp
    go_enter Tryz.func22, Tryz.ntmps22
    go_wp2_with fail
    refine (HOK.out _).mono ?_
    rintro e w1 ⟨rfl, rfl⟩
    go_wp2_with fail
    refine (l05Runs_any s _ hl).mono ?_
    rintro e w2 ⟨rfl, hb2⟩
    go_wp2
    go_ret
    exact ⟨by rw [HE.out]; rfl, hb2⟩
  | false =>
    have HE := Lib.hid (show runsO s = [] by unfold runsO; rw [if_neg (by simp [hp])])
    rw [hp] at HOK
    clear hp
    go_enter Tryz.func22, Tryz.ntmps22
    go_wp2_with fail
    refine (HOK.out _).mono ?_
    rintro e w1 ⟨rfl, rfl⟩
    go_wp2
    go_ret
    exact ⟨by rw [HE.out]; rfl, b0 _⟩
end Go.Proofs.YtkmejkeanmjfbaaGreatDoor
