/- The code of keys and the card that is punched, in the reference; the first column that differs, in both. -/
import Derived.Test.YthbgdnjlmaadjaaPunch
import Derived.Test.YthbgdnjlmaadjaaDrawAll
namespace Go.Proofs.Ythbgdnjlmaadjaa
open Go.RowKit

theorem chk_plain {s t : ByteArray} {k : Nat} (hk : k < s.size) (h : keyN (s[k].toNat : Int) = false) : chkAt s t k = 0 := by unfold chkAt; rw [byC_at hk, h]; rfl
set_option maxHeartbeats 4000000 in
theorem l05Check_any (s t : ByteArray) (w : World) (hp : progB s = true) (ht : t.size ≤ 1048576) :
    Calls Try.prog 123 #[.string s, .string t] w fun e w' => e = .returned (.int .i64 (chkC s t)) ∧ w = w' := by
  obtain ⟨hs1, hs20⟩ := progB_len hp
  have HP := Lib.hid hp
  obtain ⟨K, hK⟩ : ∃ K, K = keysN s := ⟨_, rfl⟩
  have hK20 : K ≤ 20 := by have := keysN_le s; omega
  have HK := Lib.hid hK
  clear hp hK
  go_enter Try.func123, Try.ntmps123
  go_wp2_with fail
  refine (l05Keys_any s _ (by omega)).mono ?_
  rw [← HK.out]
  rintro e w1 ⟨rfl, rfl⟩
  by_cases hl : t.size = K
  · have i1 : ((t.size : Int) != (K : Int)) = false := bne_f (by omega)
    have HL := Lib.hid (show t.size = keysN s by rw [hl, HK.out])
    clear hl
    go_wp2
    go_loop [5, 6, 7] (fun q5 q _ => ∃ k : Nat, k ≤ s.size ∧ q = .int .i64 k ∧ q5 = .int .i64 (keysTo s k : Nat) ∧ NoChk s t k) (fun _ q _ => s.size - (intOf q).toNat)
    case atStart => exact ⟨0, Nat.zero_le _, rfl, rfl, NoChk.zero _ _⟩
    case round =>
      obtain ⟨k, hk, rfl, rfl, hno⟩ := hrel
      have HNO := Lib.hid hno
      clear hno i1
      by_cases hlt : k < s.size
      · have i1 : (k : Int) < (s.size : Int) := by omega
        rcases Bool.eq_false_or_eq_true (keyN (s[k].toNat : Int)) with hkn | hkn
        · have hq20 : keysTo s k ≤ 20 := by have := keysTo_le s k; have := HK.out; omega
          obtain ⟨q, hqq⟩ : ∃ q, q = keysTo s k := ⟨_, rfl⟩
          have hq : q < t.size := by rw [HL.out, hqq]; exact keysTo_lt hlt hkn
          rw [← hqq] at hq20
          have hh : (s[k].toNat : Int) = 109 ∨ (s[k].toNat : Int) = 110 := by simpa [keyN] using hkn
          have HAK := Lib.hid (at_key (xs := []) hqq hlt hh hq)
          have HH := Lib.hid hh
          have HKS := Lib.hid (show keysTo s (k + 1) = q + 1 by rw [keysTo_yes hlt hkn, hqq])
          rw [← hqq]
          have i2 : (q : Int) < (t.size : Int) := by omega
          have HE := Lib.hid (show (Value.int .i64 ((q : Int) + 1)) = .int .i64 (keysTo s (k + 1) : Nat) by rw [HKS.out]; rfl)
          have HKN := Lib.hid hkn
          clear hqq hkn hh
          go_wp2_with fail
          refine (l05Keyed_any (s[k].toNat : Int) _).mono ?_
          rw [HKN.out]
          rintro e w4 ⟨rfl, rfl⟩
          obtain ⟨v, hv⟩ : ∃ v, v = codeV t[q].toNat := ⟨_, rfl⟩
          have HV := Lib.hid hv
          go_wp2_with fail
          refine (l03Code_any t[q].toNat (Nat.le_of_lt_succ (UInt8.toNat_lt _)) _).mono ?_
          rw [← HV.out]
          rintro e w4 ⟨rfl, rfl⟩
          clear hv
          by_cases hv0 : v < 0
          · have HZ := Lib.hid (show chkC s t = 7 from chk_some HL.out hlt HNO.out (by rw [HAK.out.2.1, if_neg (by unfold chB; rw [← HV.out]; simp; omega)]) (by omega))
            go_wp2
            go_ret
            exact ⟨ret_int HZ.out.symm, rfl⟩
          · have HCH := Lib.hid (show chB t[q] = true by unfold chB; rw [← HV.out]; simp; omega)
            rcases HH.out with h4 | h4
            · have n1 : ((s[k].toNat : Int) == 110) = false := beq_f (by omega)
              have HZ := Lib.hid (show chkAt s t k = 0 by rw [HAK.out.2.1, if_pos HCH.out, if_neg (by rw [h4]; simp)])
              have HN2 := Lib.hid (HNO.out.succ HZ.out)
              clear h4
              go_wp2
              go_round
              case rel =>
                have P : ∃ k' : Nat, k' ≤ s.size ∧ (Value.int .i64 ((k : Int) + 1)) = .int .i64 k' ∧ (Value.int .i64 ((q : Int) + 1)) = .int .i64 (keysTo s k' : Nat) ∧ NoChk s t k' := ⟨k + 1, by omega, by go_num, HE.out, HN2.out⟩
                first | exact P | exact ⟨_, P, rfl⟩ | exact ⟨_, _, P, rfl, rfl⟩ | exact ⟨_, _, _, P, rfl, rfl, rfl⟩ | exact ⟨_, _, _, _, P, rfl, rfl, rfl, rfl⟩ | exact ⟨_, _, _, _, _, P, rfl, rfl, rfl, rfl, rfl⟩ | exact ⟨_, _, _, _, _, _, P, rfl, rfl, rfl, rfl, rfl, rfl⟩ | exact ⟨_, _, _, _, _, _, _, P, rfl, rfl, rfl, rfl, rfl, rfl, rfl⟩ | exact ⟨_, _, _, _, _, _, _, _, P, rfl, rfl, rfl, rfl, rfl, rfl, rfl, rfl⟩
              case measure => (simp [intOf]; try omega)
            · have n1 : ((s[k].toNat : Int) == 110) = true := beq_t (by omega)
              rcases Bool.eq_false_or_eq_true (digB (t[q].toNat : Int)) with hdg | hdg
              · have HZ := Lib.hid (show chkAt s t k = 0 by rw [HAK.out.2.1, if_pos HCH.out, if_neg (by rw [hdg]; simp)])
                have HN2 := Lib.hid (HNO.out.succ HZ.out)
                have HDG := Lib.hid hdg
                clear hdg h4
                go_wp2_with fail
                refine (l01Digit_any (t[q].toNat : Int) _).mono ?_
                rw [HDG.out]
                rintro e w4 ⟨rfl, rfl⟩
                go_wp2
                go_round
                case rel =>
                  have P : ∃ k' : Nat, k' ≤ s.size ∧ (Value.int .i64 ((k : Int) + 1)) = .int .i64 k' ∧ (Value.int .i64 ((q : Int) + 1)) = .int .i64 (keysTo s k' : Nat) ∧ NoChk s t k' := ⟨k + 1, by omega, by go_num, HE.out, HN2.out⟩
                  first | exact P | exact ⟨_, P, rfl⟩ | exact ⟨_, _, P, rfl, rfl⟩ | exact ⟨_, _, _, P, rfl, rfl, rfl⟩ | exact ⟨_, _, _, _, P, rfl, rfl, rfl, rfl⟩ | exact ⟨_, _, _, _, _, P, rfl, rfl, rfl, rfl, rfl⟩ | exact ⟨_, _, _, _, _, _, P, rfl, rfl, rfl, rfl, rfl, rfl⟩ | exact ⟨_, _, _, _, _, _, _, P, rfl, rfl, rfl, rfl, rfl, rfl, rfl⟩ | exact ⟨_, _, _, _, _, _, _, _, P, rfl, rfl, rfl, rfl, rfl, rfl, rfl, rfl⟩
                case measure => (simp [intOf]; try omega)
              · have HZ := Lib.hid (show chkC s t = 10 from chk_some HL.out hlt HNO.out (by rw [HAK.out.2.1, if_pos HCH.out, if_pos ⟨h4, hdg⟩]) (by omega))
                have HDG := Lib.hid hdg
                clear hdg h4
                go_wp2_with fail
                refine (l01Digit_any (t[q].toNat : Int) _).mono ?_
                rw [HDG.out]
                rintro e w4 ⟨rfl, rfl⟩
                go_wp2
                go_ret
                exact ⟨ret_int HZ.out.symm, rfl⟩
        · have HN2 := Lib.hid (HNO.out.succ (chk_plain hlt hkn))
          have HKS := Lib.hid (keysTo_no hlt hkn)
          have HKN := Lib.hid hkn
          clear hkn
          go_wp2_with fail
          refine (l05Keyed_any (s[k].toNat : Int) _).mono ?_
          rw [HKN.out]
          rintro e w4 ⟨rfl, rfl⟩
          go_wp2
          go_round
          case rel =>
            have P : ∃ k' : Nat, k' ≤ s.size ∧ (Value.int .i64 ((k : Int) + 1)) = .int .i64 k' ∧ (Value.int .i64 (keysTo s k : Nat)) = .int .i64 (keysTo s k' : Nat) ∧ NoChk s t k' := ⟨k + 1, by omega, by go_num, by rw [HKS.out], HN2.out⟩
            first | exact P | exact ⟨_, P, rfl⟩ | exact ⟨_, _, P, rfl, rfl⟩ | exact ⟨_, _, _, P, rfl, rfl, rfl⟩ | exact ⟨_, _, _, _, P, rfl, rfl, rfl, rfl⟩ | exact ⟨_, _, _, _, _, P, rfl, rfl, rfl, rfl, rfl⟩ | exact ⟨_, _, _, _, _, _, P, rfl, rfl, rfl, rfl, rfl, rfl⟩ | exact ⟨_, _, _, _, _, _, _, P, rfl, rfl, rfl, rfl, rfl, rfl, rfl⟩ | exact ⟨_, _, _, _, _, _, _, _, P, rfl, rfl, rfl, rfl, rfl, rfl, rfl, rfl⟩
          case measure => (simp [intOf]; try omega)
      · obtain rfl : k = s.size := by omega
        have HZ := Lib.hid (chk_none HL.out HNO.out)
        go_wp2
        go_ret
        exact ⟨ret_int HZ.out.symm, rfl⟩
  · have i1 : ((t.size : Int) != (K : Int)) = true := bne_t (by omega)
    have HZ := Lib.hid (show chkC s t = 5 from chk_len (by have := HK.out; omega))
    go_wp2
    go_ret
    exact ⟨ret_int HZ.out.symm, rfl⟩

/-- Behind k columns. -/
def PsR (s t : ByteArray) (xs : List Int) (b7 : Nat) (w wr : World) (q8 q : Value) : Prop := ∃ k : Nat, k ≤ s.size ∧ q = .int .i64 k ∧ q8 = .int .i64 (keysTo s k : Nat) ∧
  wr.ownsRow (w.heap.size + 1) 2 1 (.slice (some ⟨w.heap.size + 1, 0, none⟩) s.size s.size) s.size (ints (pchTo s xs t k)) ∧
  Below (w.heap.size + 1) (w.alloc (.cells #[.slice none 0 0] 26)) wr ∧ wr.cell? ⟨b7, 0, none⟩ = some (.slice (some ⟨w.heap.size + 1, 0, none⟩) s.size s.size) ∧ b7 < wr.heap.size
set_option maxRecDepth 100000 in
set_option maxHeartbeats 8000000 in
theorem l05Punch_any (s t : ByteArray) (p o : Nat) (A : Option Addr) (c : Nat) (xs : List Int) (w : World) (hp : progB s = true) (hx : xs.length = s.size) (hc : w.cell? ⟨p, o, none⟩ = some (.slice A s.size c)) (ha : Rd w w.heap.size 1 A s.size (ints xs)) (hz : t.size = keysN s) :
    Calls Try.prog 124 #[.string s, .pointer (some ⟨p, o, none⟩), .string t] w fun e w' => ∃ B d, e = .returned (.agg #[.slice B s.size d]) ∧
      w'.ownsRow w.heap.size 2 1 (.slice B s.size d) s.size (ints (pchL s xs t)) ∧ Below w.heap.size w w' := by
  obtain ⟨i0, hi, hz0, hz1, hz2⟩ := info_parts info_i64
  obtain ⟨hs1, hs20⟩ := progB_len hp
  have hplt := World.block_lt_of_cell? _ _ hc
  simp only at hplt
  have hpa : (w.alloc (.cells #[.slice none 0 0] 26)).cell? ⟨p, o, none⟩ = some (.slice A s.size c) := by rw [World.cell?_alloc_lt _ _ _ (by exact hplt), hc]
  have HP := Lib.hid hp
  have HX := Lib.hid hx
  have HL := Lib.hid hz
  have hK20 := keysN_le s
  clear hp hx hz hc
  go_enter Try.func124, Try.ntmps124
  go_wp2_with (at_make; refine wpList_make_full _ rfl _ _ 24 rfl (w.heap.size + 1) 2 i0 (.int .i64 0) 1 Try.underlying24 hi hz0 hz1 _ _ _ _ s.size rfl rfl rfl rfl (by rw [hz2]; omega) (by unfold maxLen; omega) (by simp) ?_; intro w1 hown1 hgrow1; have k2 : w1.cell? ⟨w.heap.size, 0, none⟩ = some (.slice none 0 0) := hgrow1.cell (a := ⟨w.heap.size, 0, none⟩) (by simp) (by simp); have f2 : w1.frozen? ⟨w.heap.size, 0, none⟩ = false := (hgrow1.frozen_far ⟨w.heap.size, 0, none⟩ (by simp) (by simp)).trans (by simp))
  rw [zeros_ints] at hown1
  simp only [World.size_alloc] at hown1
  have hglt : w.heap.size + 1 < w1.heap.size := own_heap hown1
  have T1 : Below (w.heap.size + 1) (w.alloc (.cells #[.slice none 0 0] 26)) w1 := (Below.refl _ _).grown hgrow1 (by simp) (by simp)
  have ha1 := ha.alloc (Nat.le_refl _) (.cells #[.slice none 0 0] 26)
  have HO1 := Lib.hid hown1
  have hng3 : ¬ w.heap.size + 1 = w1.heap.size := by omega
  go_loopw [8, 9] (fun q8 q wr => PsR s t xs w1.heap.size w wr q8 q) (fun _ q _ => s.size - (intOf q).toNat)
  case atStart => exact ⟨0, Nat.zero_le _, rfl, rfl, by rw [pchTo_zero]; exact hown1.alloc _, T1.alloc (by omega) _, by simp, by simp⟩
  case round =>
    obtain ⟨wo, rfl⟩ : ∃ wo : World, wo = wr := ⟨_, rfl⟩
    obtain ⟨k, hk, rfl, rfl, hown, hbw, p3, hz7⟩ := hrel
    clear hown1 k2 f2
    have hsz := hbw.size
    simp only [World.size_alloc] at hsz
    have kp := (hbw.cell (p := ⟨p, o, none⟩) (by simp only; omega)).trans hpa
    have k2 := (hbw.cell (p := ⟨w.heap.size, 0, none⟩) (by simp)).trans (show (w.alloc (.cells #[.slice none 0 0] 26)).cell? ⟨w.heap.size, 0, none⟩ = some (.slice none 0 0) by simp)
    have f2 := (hbw.frozen (p := ⟨w.heap.size, 0, none⟩) (by simp)).trans (show (w.alloc (.cells #[.slice none 0 0] 26)).frozen? ⟨w.heap.size, 0, none⟩ = false by simp)
    by_cases hlt : k < s.size
    · have hkl : k < (ints (pchTo s xs t k)).length := by rw [ints_length, pchTo_length (by omega)]; exact hlt
      have c6 := own_cell hown k hkl
      have c7 := hown.frozenAt k
      have i1 : (k : Int) < (s.size : Int) := by omega
      have P3 := Lib.hid p3
      have HREL := Lib.hid (show ∀ (v : Int) (wt : World) (q8 : Value), pchAt s xs t k = v → q8 = .int .i64 (keysTo s (k + 1) : Nat) → (wt = wo.setCell ⟨w.heap.size + 1, k, none⟩ (.int .i64 v) ∨ wt = (wo.setCell ⟨w.heap.size + 1, k, none⟩ (.int .i64 v)).drew) → PsR s t xs w1.heap.size w wt q8 (.int .i64 ((k : Int) + 1)) from fun v wt q8 hv hq hw => by
        have TX : Below (wo.setCell ⟨w.heap.size + 1, k, none⟩ (.int .i64 v)).heap.size (wo.setCell ⟨w.heap.size + 1, k, none⟩ (.int .i64 v)) wt := by
          rcases hw with rfl | rfl
          · exact b0 _
          · exact (b0 _).drew
        have HS : (wo.setCell ⟨w.heap.size + 1, k, none⟩ (.int .i64 v)).ownsRow (w.heap.size + 1) 2 1 (.slice (some ⟨w.heap.size + 1, 0, none⟩) s.size s.size) s.size (ints (pchTo s xs t (k + 1))) := by
          rw [← pchTo_set hlt hv, ints_set]
          exact ownsRow_set hown k _
        refine ⟨k + 1, by omega, by go_num, hq, own_bs HS TX, (bset hbw _ _ _ (Nat.le_refl _)).trans (TX.mono (by simp; omega)), cell_later TX (set_far P3.out hng3), ?_⟩
        have := TX.size
        simp at this
        omega)
      rcases Bool.eq_false_or_eq_true (keyN (s[k].toNat : Int)) with hkn | hkn
      · have hq20 : keysTo s k ≤ 20 := by have := keysTo_le s k; omega
        obtain ⟨q, hqq⟩ : ∃ q, q = keysTo s k := ⟨_, rfl⟩
        have hq : q < t.size := by rw [HL.out, hqq]; exact keysTo_lt hlt hkn
        rw [← hqq] at hq20
        have hh : (s[k].toNat : Int) = 109 ∨ (s[k].toNat : Int) = 110 := by simpa [keyN] using hkn
        have HAK := Lib.hid (at_key (xs := xs) hqq hlt hh hq)
        have HKS := Lib.hid (show keysTo s (k + 1) = q + 1 by rw [keysTo_yes hlt hkn, hqq])
        rw [← hqq]
        have i2 : (q : Int) < (t.size : Int) := by omega
        have HE := Lib.hid (show (Value.int .i64 ((q : Int) + 1)) = .int .i64 (keysTo s (k + 1) : Nat) by rw [HKS.out]; rfl)
        have HKN := Lib.hid hkn
        have HCO := Lib.hid (show ∀ w : World, Calls Try.prog 94 #[.int .u8 (t[q].toNat : Int)] w fun e w' => e = .returned (.int .i64 (codeV t[q].toNat)) ∧ w = w' from fun w => l03Code_any t[q].toNat (Nat.le_of_lt_succ (UInt8.toNat_lt _)) w)
        obtain ⟨v, hv⟩ : ∃ v, v = codeV t[q].toNat := ⟨_, rfl⟩
        rw [← hv] at HCO
        have HV := Lib.hid (show pchAt s xs t k = v by rw [hv]; exact HAK.out.2.2)
        clear hqq hkn hh hv HAK
        go_wp2_with fail
        refine (l05Keyed_any (s[k].toNat : Int) _).mono ?_
        rw [HKN.out]
        rintro e w4 ⟨rfl, rfl⟩
        go_wp2_with fail
        go_region_held3 (fun w' => w'.cell? ⟨w1.heap.size, 0, none⟩ = some (.slice (some ⟨w.heap.size + 1, 0, none⟩) s.size s.size)) (first | exact p3 | go_keep)
          (first
            | (go_at_call 94; refine (HCO.out _).mono ?_; rintro e w5 ⟨rfl, rfl⟩))
        all_goals
          go_wp2
          go_roundw
          case rel =>
            have P : ∀ wt, (wt = wo.setCell ⟨w.heap.size + 1, k, none⟩ (.int .i64 v) ∨ wt = (wo.setCell ⟨w.heap.size + 1, k, none⟩ (.int .i64 v)).drew) → PsR s t xs w1.heap.size w wt (.int .i64 ((q : Int) + 1)) (.int .i64 ((k : Int) + 1)) := fun wt hwt => HREL.out v wt _ HV.out HE.out hwt
            first | exact P _ (.inl rfl) | exact P _ (.inr rfl) | exact ⟨_, P _ (.inr rfl), rfl⟩ | exact ⟨_, _, P _ (.inr rfl), rfl, rfl⟩
          case measure => (simp [intOf]; try omega)
      · have HKS := Lib.hid (keysTo_no hlt hkn)
        have HKN := Lib.hid hkn
        by_cases h4 : (s[k].toNat : Int) = 100
        · have n1 : ((s[k].toNat : Int) == 100) = true := beq_t h4
          obtain ⟨_, _, hz2⟩ := at_dup (t := t) (xs := xs) hlt HX.out h4
          have hkx : k < xs.length := by rw [HX.out]; exact hlt
          obtain ⟨bz, oz, hA, hbz, hcz⟩ := (ha1.below (hbw.mono (by omega))).at_ hlt
          subst hA
          have d1 := hcz k _ (ints_get xs k hkx)
          obtain ⟨v, hv⟩ : ∃ v, v = xs[k] := ⟨_, rfl⟩
          rw [← hv] at d1 hz2
          have HV := Lib.hid hz2
          clear h4 hz2 hkn hcz hv
          go_wp2_with fail
          refine (l05Keyed_any (s[k].toNat : Int) _).mono ?_
          rw [HKN.out]
          rintro e w4 ⟨rfl, rfl⟩
          go_wp2
          go_region
          all_goals
            go_wp2
            go_roundw
            case rel =>
              have P : ∀ wt, (wt = wo.setCell ⟨w.heap.size + 1, k, none⟩ (.int .i64 v) ∨ wt = (wo.setCell ⟨w.heap.size + 1, k, none⟩ (.int .i64 v)).drew) → PsR s t xs w1.heap.size w wt (.int .i64 (keysTo s k : Nat)) (.int .i64 ((k : Int) + 1)) := fun wt hwt => HREL.out v wt _ HV.out (by rw [HKS.out]) hwt
              first | exact P _ (.inl rfl) | exact P _ (.inr rfl) | exact ⟨_, P _ (.inr rfl), rfl⟩ | exact ⟨_, _, P _ (.inr rfl), rfl, rfl⟩
            case measure => (simp [intOf]; try omega)
        · have n1 : ((s[k].toNat : Int) == 100) = false := beq_f h4
          have HPS := Lib.hid (pchTo_stay (s := s) (xs := xs) (t := t) hlt (show pchAt s xs t k = 0 by unfold pchAt; rw [byC_at hlt, hkn, if_neg (by simp), if_neg h4]))
          clear h4 hkn
          go_wp2_with fail
          refine (l05Keyed_any (s[k].toNat : Int) _).mono ?_
          rw [HKN.out]
          rintro e w4 ⟨rfl, rfl⟩
          go_wp2
          go_roundw
          case rel =>
            have P : PsR s t xs w1.heap.size w wo (.int .i64 (keysTo s k : Nat)) (.int .i64 ((k : Int) + 1)) := ⟨k + 1, by omega, by go_num, by rw [HKS.out], by rw [← HPS.out]; exact hown, hbw, p3, hz7⟩
            first | exact P | exact ⟨_, P, rfl⟩ | exact ⟨_, _, P, rfl, rfl⟩ | exact ⟨_, _, _, P, rfl, rfl, rfl⟩ | exact ⟨_, _, _, _, P, rfl, rfl, rfl, rfl⟩ | exact ⟨_, _, _, _, _, P, rfl, rfl, rfl, rfl, rfl⟩ | exact ⟨_, _, _, _, _, _, P, rfl, rfl, rfl, rfl, rfl, rfl⟩ | exact ⟨_, _, _, _, _, _, _, P, rfl, rfl, rfl, rfl, rfl, rfl, rfl⟩ | exact ⟨_, _, _, _, _, _, _, _, P, rfl, rfl, rfl, rfl, rfl, rfl, rfl, rfl⟩
          case measure => (simp [intOf]; try omega)
    · obtain rfl : k = s.size := by omega
      have hown2 := hown
      rw [pchTo_all] at hown2
      clear hown
      go_wp2
      refine bodyPost_ret (v := .agg #[.slice (some ⟨w.heap.size + 1, 0, none⟩) s.size s.size]) (by simp [results, Try.results124, go_sem, *]) rfl ⟨_, _, rfl, ?_, ?_⟩
      · exact own_base (own_below hown2 _ _ _ (by omega)) (by omega)
      · exact bset (bs (ba (b0 w) (.cells #[.slice none 0 0] 26)) (hbw.mono (by simp))) _ _ _ (Nat.le_refl _)
end Go.Proofs.Ythbgdnjlmaadjaa
