/- Program cards read back from their texts, in the program. -/
import Derived.Test.YtkmejkeanmjfbaaDoorRunsProg
import Derived.Test.YtkmejkeanmjfbaaDoorRunsSp
namespace Go.Proofs.YtkmejkeanmjfbaaDoor
open Go.RowKit

theorem rr_over {s : List UInt8} {k n : Nat} {c : UInt8} {t : List UInt8} {rs : List (UInt8 × Nat)} (hk : k < (splitW 32 s).length) (hw : (splitW 32 s)[k] = c :: t) (hn : numD t = some n) (hrs : readW ((splitW 32 s).take k) = some rs) (h : 20 < (expand rs).length + n) : rrO s = none := by
  cases hr : readW (splitW 32 s) with
  | none => exact rr_none hr
  | some x =>
    have hl := readW_len hr
    have hx : k < x.length := by omega
    have e := readW_take (k := k) hr
    rw [hrs] at e
    injection e with e
    have h1 := readW_at hr hk hx
    rw [hw, wordR_yes hn] at h1
    injection h1 with h1
    refine rr_long (k := k + 1) hr ?_
    rw [List.take_succ_eq_append_getElem hx, ← e, ← h1, expand_snoc, List.length_append, List.length_replicate]
    exact h
theorem splitS_any (s : ByteArray) (w : World) (hl : s.size ≤ 1048576) (he : EnvOk w) :
    Calls Tryd.prog 11 #[.string s, .string ⟨#[32]⟩] w fun e w' => ∃ g c, e = .returned (.slice (some ⟨g, 0, none⟩) (splitW 32 (byt s)).length c) ∧
      Rd w' w'.heap.size 1 (some ⟨g, 0, none⟩) (splitW 32 (byt s)).length (sts (splitW 32 (byt s))) ∧ Below w.heap.size w w' := by
  obtain ⟨m, hm⟩ := he.mx
  have h1 := split_bytes 32 s
  have h2 : (Lib.splitB ⟨#[32]⟩ 0 (Lib.countB s ⟨#[32]⟩) s).map Value.string = sts (splitW 32 (byt s)) := by
    rw [← h1, sts, List.map_map]
    refine List.map_congr_left fun b _ => ?_
    simp only [Function.comp_apply, bs_byt]
  have h3 : Lib.countB s ⟨#[32]⟩ + 1 = (splitW 32 (byt s)).length := by
    rw [← h1, List.length_map, Lib.splitB_all ⟨#[32]⟩ (by decide) 0 _ s rfl]
  refine (Tryd.strings_Split s ⟨#[32]⟩ m w (by omega) hm (by decide)).mono ?_
  rintro e w1 ⟨rfl, rfl⟩
  rw [h2, h3]
  have hn := splitW_len 32 (byt s)
  rw [byt_size] at hn
  refine ⟨w.heap.size, (splitW 32 (byt s)).length, rfl, ?_, ba (b0 w) _⟩
  have ho := own_lit w (sts (splitW 32 (byt s))).toArray (splitW 32 (byt s)).length (base := w.heap.size) (H := w.heap.size) (e := 9) (size := 1) rfl (Nat.le_refl _) (by omega) (by simp [sts])
  have := Rd.own ho
  simpa using this
theorem repeat_one (c : UInt8) (n : Nat) : Lib.repeatL [c] n = List.replicate n c := by
  induction n with
  | zero => rfl
  | succ n ih => simp_all [Lib.repeatL, List.replicate_succ]
/-- Behind k words. -/
def IrR (s : List UInt8) (W wr : World) (o q : Value) : Prop := ∃ (k : Nat) (rs : List (UInt8 × Nat)), k ≤ (splitW 32 s).length ∧ q = .int .i64 k ∧ o = .string (bs_ (expand rs)) ∧ readW ((splitW 32 s).take k) = some rs ∧ (expand rs).length ≤ 20 ∧ Below W.heap.size W wr

set_option maxRecDepth 20000 in
set_option maxHeartbeats 8000000 in
theorem ReadRuns_any (s : ByteArray) (w : World) (hl : s.size ≤ 1048576) (he : EnvOk w) :
    Calls Tryd.prog 5 #[.string s] w fun e w' => e = .returned (.tuple #[.string (rrS (byt s)), .bool (rrB (byt s))]) ∧ Below w.heap.size w w' := by
  have HEN := Lib.hid he
  go_enter Tryd.func5, Tryd.ntmps5
  go_wp2_with fail
  refine (splitS_any s _ hl he).mono ?_
  rintro e W ⟨gA, cA, rfl, rA, hbW⟩
  obtain ⟨n, hn⟩ : ∃ n, n = (splitW 32 (byt s)).length := ⟨_, rfl⟩
  have hn1 : n ≤ 1048577 := by
    have := splitW_len 32 (byt s)
    rw [byt_size] at this
    omega
  rw [← hn] at rA ⊢
  have HN := Lib.hid hn
  have HBW := Lib.hid hbW
  have HEW := Lib.hid (HEN.out.bs hbW)
  have HNO := Lib.hid (show rrO (byt s) = none → Ending.returned (.tuple #[.string ⟨#[]⟩, .bool false]) = .returned (.tuple #[.string (rrS (byt s)), .bool (rrB (byt s))]) from fun h => by
    unfold rrS rrB
    rw [h]
    rfl)
  clear hn hbW he
  go_wp2
  go_loopw [4, 6, 7, 8, 12] (fun o _ _ _ q wr => IrR (byt s) W wr o q) (fun _ _ _ _ q _ => n - (intOf q).toNat)
  case atStart => exact ⟨0, [], Nat.zero_le _, rfl, rfl, rfl, by simp [expand], b0 W⟩
  case round =>
    obtain ⟨wo, rfl⟩ : ∃ wo : World, wo = wr := ⟨_, rfl⟩
    obtain ⟨k, rs, hk, rfl, rfl, hrd, hL, hbw⟩ := hrel
    have hbase := hbw.size
    have HB0 := Lib.hid hbw
    have HRD := Lib.hid hrd
    rw [← HN.out] at hk
    obtain ⟨P, hP⟩ : ∃ P, P = bs_ (expand rs) := ⟨_, rfl⟩
    have HPL := Lib.hid (show P.size = (expand rs).length by rw [hP, bs_size])
    have hP20 : P.size ≤ 20 := by rw [HPL.out]; exact hL
    have HPP := Lib.hid hP
    rw [← hP]
    clear hP hrd hL
    by_cases hlt : k < n
    · have HKS := Lib.hid (show k < (splitW 32 (byt s)).length by rw [← HN.out]; exact hlt)
      have i1 : (k : Int) < (n : Int) := by omega
      obtain ⟨x, hx⟩ : ∃ x, x = (splitW 32 (byt s))[k]'HKS.out := ⟨_, rfl⟩
      obtain ⟨X, hX⟩ : ∃ X, X = bs_ x := ⟨_, rfl⟩
      obtain ⟨bA, oA, hA, hAb, hcA⟩ := (rA.up hbw).at_ hlt
      have dA := hcA k _ (sts_get _ k HKS.out)
      rw [← hx, ← hX] at dA
      injection hA with hA
      injection hA with e1 e2
      subst e1 e2
      rw [Nat.zero_add] at dA
      have HXL := Lib.hid (show X.size = x.length by rw [hX, bs_size])
      have hXs : X.size ≤ 1048576 := by
        rw [HXL.out, hx]
        have := splitW_word 32 (byt s) _ (List.getElem_mem HKS.out)
        rw [byt_size] at this
        omega
      have HX := Lib.hid hx
      have HXX := Lib.hid hX
      clear hx hX hcA hbw
      by_cases h0 : X.size = 0
      · have e1 := em_t h0
        have HE := Lib.hid (HNO.out (rr_word HKS.out (by rw [← HX.out, List.eq_nil_of_length_eq_zero (show x.length = 0 by rw [← HXL.out]; exact h0)]; rfl)))
        clear h0
        go_wp2
        go_ret2
        exact ⟨HE.out, HBW.out.trans (HB0.out.mono HBW.out.size)⟩
      · have e1 := em_f h0
        have h01 : 0 < X.size := by omega
        obtain ⟨c, t, hct⟩ : ∃ c t, x = c :: t := by
          have := HXL.out
          cases x with
          | nil => simp only [List.length_nil] at this; omega
          | cons c t => exact ⟨c, t, rfl⟩
        have HCT := Lib.hid (show (splitW 32 (byt s))[k]'HKS.out = c :: t by rw [← HX.out, hct])
        have hXt : byt (X.extract 1 X.size) = t := by rw [tail_byt, HXX.out, byt_bs, hct]; rfl
        have HNM := Lib.hid (fun V y => ReadDecimal_any (X.extract 1 X.size) V (by simp; omega) y)
        have HX1 := Lib.hid (show X.extract 0 1 = bs_ [c] from ext_bs (by rw [HXX.out, byt_bs, hct]; rfl))
        rw [hXt] at HNM
        have HEO := Lib.hid (HEW.out.bs HB0.out)
        clear hXt hct h0
        go_wp2_with fail
        refine (HNM.out _ HEO.out).mono ?_
        rintro e w1 ⟨⟨v, rfl, hv, v0, v1⟩ | ⟨rfl, hnt⟩, hb1⟩
        · have HND := Lib.hid (numD_itoa hv)
          have HB1 := Lib.hid (HB0.out.trans (hb1.mono hbase))
          have hw20 : wrap64 (20 - (P.size : Int)) = 20 - (P.size : Int) := by unfold wrap64; omega
          clear hb1 dA
          cases hin : insideB v 1 (20 - (P.size : Int)) with
          | false =>
            have HE := Lib.hid (HNO.out (by
              by_cases hv2 : 1 ≤ v ∧ v ≤ 20
              · refine rr_over (n := v.toNat) HKS.out HCT.out (by rw [HND.out, if_pos hv2]) HRD.out ?_
                have := insideB_false hin
                rw [← HPL.out]
                omega
              · exact rr_word HKS.out (by rw [HCT.out]; exact wordR_num (by rw [HND.out, if_neg hv2]))))
            have HII := Lib.hid (fun V => inside_any v 1 (20 - (P.size : Int)) V)
            rw [hin] at HII
            clear hin
            go_wp2_with fail
            refine (HII.out _).mono ?_
            rintro e w2 ⟨rfl, rfl⟩
            go_wp2
            go_ret2
            exact ⟨HE.out, HBW.out.trans (HB1.out.mono HBW.out.size)⟩
          | true =>
            have hvr := insideB_true hin
            have HII := Lib.hid (fun V => inside_any v 1 (20 - (P.size : Int)) V)
            rw [hin] at HII
            clear hin
            go_wp2_with fail
            refine (HII.out _).mono ?_
            rintro e w2 ⟨rfl, rfl⟩
            obtain ⟨V, rfl⟩ : ∃ V : Nat, v = (V : Int) := ⟨v.toNat, by omega⟩
            have HV := Lib.hid (show numD t = some V by rw [HND.out, if_pos (by omega)]; rfl)
            have hVP : V + P.size ≤ 20 := by omega
            have HRP := Lib.hid (fun U => Tryd.strings_Repeat (X.extract 0 1) V U (by omega) (by rw [HX1.out, show (bs_ [c]).size = 1 from rfl]; omega))
            have HRL := Lib.hid (show (⟨(Lib.repeatL (X.extract 0 1).data.toList V).toArray⟩ : ByteArray) = bs_ (List.replicate V c) by
              rw [HX1.out, ← repeat_one]
              rfl)
            rw [HRL.out] at HRP
            have hsz : ¬ 9223372036854775807 < P.size + (bs_ (List.replicate V c)).size := by rw [bs_size, List.length_replicate]; omega
            have HPN := Lib.hid (show P ++ bs_ (List.replicate V c) = bs_ (expand (rs ++ [(c, V)])) by rw [HPP.out, cat_bs, expand_snoc])
            have HRN := Lib.hid (show readW ((splitW 32 (byt s)).take (k + 1)) = some (rs ++ [(c, V)]) by
              rw [List.take_succ_eq_append_getElem HKS.out]
              exact readW_snoc HRD.out (by rw [HCT.out]; exact wordR_yes HV.out))
            have HLN := Lib.hid (show (expand (rs ++ [(c, V)])).length ≤ 20 by rw [expand_snoc, List.length_append, List.length_replicate, ← HPL.out]; omega)
            clear hvr v0 v1 hv HII hXs
            go_wp2_with fail
            refine (HRP.out _).mono ?_
            rintro e w2 ⟨rfl, hb2⟩
            have HB2 := Lib.hid (HB1.out.trans (hb2.mono HB1.out.size))
            clear hb2
            go_wp2
            go_roundw
            case rel =>
              have PP : IrR (byt s) W w2 (.string (P ++ bs_ (List.replicate V c))) (.int .i64 ((k : Int) + 1)) := ⟨k + 1, rs ++ [(c, V)], HKS.out, by go_num, by rw [HPN.out], HRN.out, HLN.out, HB2.out⟩
              first | exact PP | exact ⟨_, PP, rfl⟩ | exact ⟨_, _, PP, rfl, rfl⟩ | exact ⟨_, _, _, PP, rfl, rfl, rfl⟩ | exact ⟨_, _, _, _, PP, rfl, rfl, rfl, rfl⟩ | exact ⟨_, _, _, _, _, PP, rfl, rfl, rfl, rfl, rfl⟩ | exact ⟨_, _, _, _, _, _, PP, rfl, rfl, rfl, rfl, rfl, rfl⟩ | exact ⟨_, _, _, _, _, _, _, PP, rfl, rfl, rfl, rfl, rfl, rfl, rfl⟩ | exact ⟨_, _, _, _, _, _, _, _, PP, rfl, rfl, rfl, rfl, rfl, rfl, rfl, rfl⟩
            case measure => (simp [intOf]; try omega)
        · have HE := Lib.hid (HNO.out (rr_word HKS.out (by rw [HCT.out]; exact wordR_num (numD_no hnt))))
          clear hnt
          go_wp2
          go_ret2
          exact ⟨HE.out, HBW.out.trans ((HB0.out.trans (hb1.mono hbase)).mono HBW.out.size)⟩
    · obtain rfl : k = n := by omega
      have HRA := Lib.hid (show readW (splitW 32 (byt s)) = some rs by
        have := HRD.out
        rw [HN.out, List.take_of_length_le (Nat.le_refl _)] at this
        exact this)
      have HBK := Lib.hid (rr_back HRA.out)
      have HPR := Lib.hid (fun V => ProgramRuns_any P V (by omega))
      clear hbw
      go_wp2_with fail
      refine (HPR.out _).mono ?_
      rintro e w1 ⟨rfl, hb1⟩
      have HB1 := Lib.hid (bs HB0.out hb1)
      clear hb1
      by_cases hs : bs_ (runsO P) = s
      · have e4 := ba_list_t hs
        have HR := Lib.hid (show rrO (byt s) = some (expand rs) from HBK.out.1 (by rw [← HPP.out, ← hs, byt_bs]))
        have HE := Lib.hid (show Ending.returned (.tuple #[.string P, .bool true]) = .returned (.tuple #[.string (rrS (byt s)), .bool (rrB (byt s))]) by
          unfold rrS rrB
          rw [HR.out, HPP.out]
          rfl)
        clear hs
        go_wp2
        go_ret2
        exact ⟨HE.out, HBW.out.trans (HB1.out.mono HBW.out.size)⟩
      · have e4 := ba_list_f hs
        have HE := Lib.hid (HNO.out (HBK.out.2 (fun e => hs (by rw [HPP.out, e, bs_byt]))))
        clear hs
        go_wp2
        go_ret2
        exact ⟨HE.out, HBW.out.trans (HB1.out.mono HBW.out.size)⟩
end Go.Proofs.YtkmejkeanmjfbaaDoor
