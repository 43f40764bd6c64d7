/- Program cards read back from their texts, in the reference. -/
import Derived.Test.YtkmejkeanmjfbaaDoorRNumW
import Derived.Test.YtkmejkeanmjfbaaDoorLater
namespace Go.Proofs.YtkmejkeanmjfbaaDoor
open Go.RowKit

/-! ### plain: what a bad word says of the whole text -/
theorem readW_bad : ∀ {l : List (List UInt8)} {k : Nat} (hk : k < l.length), wordR l[k] = none → readW l = none
  | [], k, hk, _ => absurd hk (Nat.not_lt_zero k)
  | w :: l, 0, _, h => by
    cases hr : readW (w :: l) with
    | none => rfl
    | some x =>
      obtain ⟨a, b, _, h1, _⟩ := readW_inv hr
      rw [List.getElem_cons_zero] at h
      rw [h] at h1
      cases h1
  | w :: l, k + 1, hk, h => by
    cases hr : readW (w :: l) with
    | none => rfl
    | some x =>
      obtain ⟨a, b, _, _, h2⟩ := readW_inv hr
      rw [List.getElem_cons_succ] at h
      rw [readW_bad (by simpa using hk) h] at h2
      cases h2
theorem readW_at : ∀ {l : List (List UInt8)} {x : List (UInt8 × Nat)} {k : Nat} (_ : readW l = some x) (hk : k < l.length) (hx : k < x.length), wordR l[k] = some x[k]
  | [], _, k, _, hk, _ => absurd hk (Nat.not_lt_zero k)
  | w :: l, x, 0, h, _, hx => by
    obtain ⟨a, b, rfl, h1, _⟩ := readW_inv h
    exact h1
  | w :: l, x, k + 1, h, hk, hx => by
    obtain ⟨a, b, rfl, _, h2⟩ := readW_inv h
    exact readW_at h2 (by simpa using hk) (by simpa using hx)
theorem rr_word {s : List UInt8} {k : Nat} (hk : k < (splitW 32 s).length) (h : wordR (splitW 32 s)[k] = none) : rrO s = none := rr_none (readW_bad hk h)
theorem wordR_short {x : List UInt8} (h : x.length < 2) : wordR x = none := by
  cases hw : wordR x with
  | none => rfl
  | some r =>
    obtain ⟨h1, h2, h3⟩ := wordR_iff.1 (show wordR x = some (r.1, r.2) from hw)
    have := (t20_facts ⟨r.2, by omega⟩).2.2.1
    simp only at this
    rw [h3, List.length_cons] at h
    omega
theorem wordR_num {c : UInt8} {t : List UInt8} (h : numD t = none) : wordR (c :: t) = none := by show (numD t).map (fun n => (c, n)) = none; rw [h]; rfl
theorem wordR_yes {c : UInt8} {t : List UInt8} {n : Nat} (h : numD t = some n) : wordR (c :: t) = some (c, n) := by show (numD t).map (fun n => (c, n)) = _; rw [h]; rfl
theorem rr_letter {s : List UInt8} {k : Nat} {c : UInt8} {t : List UInt8} (hk : k < (splitW 32 s).length) (hw : (splitW 32 s)[k] = c :: t) (h : letC c = false) : rrO s = none := by
  cases hr : readW (splitW 32 s) with
  | none => exact rr_none hr
  | some rs =>
    rw [rr_some hr, if_neg]
    rintro ⟨_, hp⟩
    have hl := readW_len hr
    have hx : k < rs.length := by omega
    have h1 := readW_at hr hk hx
    rw [hw] at h1
    obtain ⟨g1, g2, g3⟩ := wordR_iff.1 (show wordR (c :: t) = some (rs[k].1, rs[k].2) from h1)
    injection g3 with g3 _
    have := progB_letters hp rs[k].1 (mem_expand (List.getElem_mem hx) g1)
    rw [← g3, h] at this
    cases this
theorem altR_take : ∀ {rs : List (UInt8 × Nat)} (k : Nat), altR rs → altR (rs.take k)
  | [], k, _ => by simp [altR]
  | [a], 0, _ => by simp [altR]
  | [a], k + 1, _ => by simp [altR]
  | a :: b :: r, 0, _ => by simp [altR]
  | a :: b :: r, 1, _ => by simp [altR]
  | a :: b :: r, k + 2, h => by
    have := altR_take (rs := b :: r) (k + 1) h.2
    rw [List.take_succ_cons] at this ⊢
    rw [List.take_succ_cons]
    exact ⟨h.1, this⟩
theorem rr_twice {s : List UInt8} {k : Nat} {c : UInt8} {t : List UInt8} {rs : List (UInt8 × Nat)} (hk : k < (splitW 32 s).length) (hw : (splitW 32 s)[k] = c :: t) (hrs : readW ((splitW 32 s).take k) = some rs) (h : (expand rs).getLast? = some c) : rrO s = none := by
  cases hr : readW (splitW 32 s) with
  | none => exact rr_none hr
  | some x =>
    rw [rr_some hr, if_neg]
    rintro ⟨ha, _⟩
    have hl := readW_len hr
    have hx : k < x.length := by omega
    have e := readW_take (k := k) hr
    rw [hrs] at e
    injection e with e
    have h2 := altR_take (k + 1) ha
    rw [List.take_succ_eq_append_getElem hx, ← e] at h2
    obtain ⟨_, h3⟩ := altR_snoc.1 h2
    have h1 := readW_at hr hk hx
    rw [hw] at h1
    obtain ⟨g1, g2, g3⟩ := wordR_iff.1 (show wordR (c :: t) = some (x[k].1, x[k].2) from h1)
    injection g3 with g3 _
    have hn := (readW_word hrs).2
    rcases List.eq_nil_or_concat rs with rfl | ⟨q, r, rfl⟩
    · simp [expand] at h
    · rw [List.concat_eq_append] at h h3 hn
      rw [last_expand (hn r (by simp)).1] at h
      injection h with h
      exact h3 r (by simp) (by rw [h, g3])
theorem expand_small {x : List (UInt8 × Nat)} (h : ∀ r ∈ x, r.2 ≤ 20) : (expand x).length ≤ 20 * x.length := by
  induction x with
  | nil => simp [expand]
  | cons a b ih =>
    have := h a (by simp)
    have := ih fun r hr => h r (by simp [hr])
    rw [expand_cons, List.length_append, List.length_replicate, List.length_cons]
    omega
/-- The words read so far. -/
structure RdW (s : List UInt8) (k : Nat) (rs : List (UInt8 × Nat)) : Prop where
  read : readW ((splitW 32 s).take k) = some rs
  alt : altR rs
theorem RdW.zero (s : List UInt8) : RdW s 0 [] := ⟨rfl, trivial⟩
theorem RdW.len {s : List UInt8} {k : Nat} {rs : List (UInt8 × Nat)} (h : RdW s k rs) : (expand rs).length ≤ 20 * k := by
  have h1 := expand_small (x := rs) fun r hr => ((readW_word h.read).2 r hr).2
  have h2 := readW_len h.read
  rw [List.length_take] at h2
  omega
theorem RdW.next {s : List UInt8} {k : Nat} {rs : List (UInt8 × Nat)} (h : RdW s k rs) {c : UInt8} {t : List UInt8} {n : Nat} (hk : k < (splitW 32 s).length) (hw : (splitW 32 s)[k] = c :: t) (hn : numD t = some n) (hl : ¬ (expand rs).getLast? = some c) : RdW s (k + 1) (rs ++ [(c, n)]) := by
  refine ⟨?_, altR_snoc.2 ⟨h.alt, fun a ha e => hl ?_⟩⟩
  · rw [List.take_succ_eq_append_getElem hk]
    exact readW_snoc h.read (by rw [hw]; exact wordR_yes hn)
  · rcases List.eq_nil_or_concat rs with rfl | ⟨q, r, rfl⟩
    · simp at ha
    · rw [List.concat_eq_append] at ha ⊢
      simp at ha
      subst ha
      rw [last_expand ((readW_word h.read).2 _ (by simp)).1, e]
theorem RdW.fin {s : List UInt8} {rs : List (UInt8 × Nat)} (h : RdW s (splitW 32 s).length rs) : rrO s = if progB (bs_ (expand rs)) = true then some (expand rs) else none := by
  have h1 := h.read
  rw [List.take_of_length_le (Nat.le_refl _)] at h1
  rw [rr_some h1]
  by_cases hp : progB (bs_ (expand rs)) = true
  · rw [if_pos hp, if_pos ⟨h.alt, hp⟩]
  · rw [if_neg hp, if_neg fun e => hp e.2]
theorem l05Ok_big (s : ByteArray) (w : World) (hl : s.size ≤ 1099511627776) : Calls Tryd.prog 10 #[.string s] w fun e w' => e = .returned (.bool (progB s)) ∧ w = w' := by
  have HA := Lib.hid (any_not_allI letC (byt s))
  have HS := Lib.hid (byt_size s)
  go_enter Tryd.func10, Tryd.ntmps10
  go_wp2
  go_loop [3] (fun i => ∃ k : Nat, k ≤ s.size ∧ i = .int .i64 k ∧ ((byt s).take k).any (fun c => !letC c) = false) (fun i => s.size - (intOf i).toNat)
  case atStart => exact ⟨0, by omega, rfl, rfl⟩
  case round =>
    obtain ⟨k, hk, rfl, hno⟩ := hrel
    have HNO := Lib.hid hno
    clear hno
    by_cases hlt : k < s.size
    · have HKL := Lib.hid (show k < (byt s).length by rw [HS.out]; exact hlt)
      have HAT := Lib.hid (byt_at s k hlt)
      rcases Bool.eq_false_or_eq_true (letN (s[k].toNat : Int)) with hp | hp
      · have HB2 := Lib.hid (show letC ((byt s)[k]'HKL.out) = true by rw [HAT.out]; exact hp)
        have HP := Lib.hid (any_take_succ (p := fun c => !letC c) HKL.out HNO.out (by rw [HB2.out]; rfl))
        go_wp2_with fail
        refine (l05Letter_any (s[k].toNat : Int) _).mono ?_; rintro e w1 ⟨rfl, rfl⟩
        go_wp2
        go_round
        case rel => exact ⟨k + 1, by omega, by go_num, HP.out⟩
        case measure => simp [intOf]; omega
      · have HB2 := Lib.hid (show letC ((byt s)[k]'HKL.out) = false by rw [HAT.out]; exact hp)
        have HP := Lib.hid (progB_no (List.all_eq_false.2 ⟨(byt s)[k]'HKL.out, List.getElem_mem HKL.out, by rw [HB2.out]; simp⟩))
        go_wp2_with fail
        refine (l05Letter_any (s[k].toNat : Int) _).mono ?_; rintro e w1 ⟨rfl, rfl⟩
        go_wp2
        go_ret
        exact ⟨ret_bool HP.out.symm, rfl⟩
    · have HP := Lib.hid (progB_yes (s := s) (by
        have h1 := any_take_all (l := byt s) (by rw [HS.out]; exact hlt) HNO.out
        rw [HA.out] at h1
        simpa using h1))
      go_wp2_with fail
      refine (l00In_any _ _ _ _).mono ?_; rintro e w1 ⟨rfl, rfl⟩
      go_wp2
      go_ret
      exact ⟨ret_bool HP.out.symm, rfl⟩

/-- The test of a word: too short, no letter, or the letter of the run ahead. -/
def badW (x L : List UInt8) : Bool := decide (x.length < 2) || (!letC (x.headD 0) || (L.getLast? == some (x.headD 0)))
theorem bad_rr {s : List UInt8} {k : Nat} {x : List UInt8} {rs : List (UInt8 × Nat)} (hk : k < (splitW 32 s).length) (hx : x = (splitW 32 s)[k]) (h : RdW s k rs) (hb : badW x (expand rs) = true) : rrO s = none := by
  cases x with
  | nil => exact rr_word hk (by rw [← hx]; rfl)
  | cons c t =>
    by_cases h2 : (c :: t).length < 2
    · exact rr_word hk (by rw [← hx]; exact wordR_short h2)
    · unfold badW at hb
      rw [decide_eq_false h2] at hb
      cases hl : letC c with
      | false => exact rr_letter hk hx.symm hl
      | true =>
        simp only [List.headD_cons, hl, Bool.not_true, Bool.false_or, beq_iff_eq] at hb
        exact rr_twice hk hx.symm h.read hb
theorem good_wd {x L : List UInt8} (hb : badW x L = false) : ∃ c t, x = c :: t ∧ letC c = true ∧ ¬ L.getLast? = some c := by
  cases x with
  | nil => simp [badW] at hb
  | cons c t =>
    refine ⟨c, t, rfl, ?_, ?_⟩
    · cases hl : letC c with
      | true => rfl
      | false => simp [badW, hl] at hb
    · intro e
      simp [badW, e] at hb
def RrR (s : List UInt8) (W wr : World) (o q : Value) : Prop := ∃ (k m g cg : Nat) (rs : List (UInt8 × Nat)), k ≤ (splitW 32 s).length ∧ q = .int .i64 k ∧ m = (expand rs).length ∧ o = .slice (some ⟨g, 0, none⟩) m cg ∧ RdW s k rs ∧
  wr.ownsRow W.heap.size 5 1 (.slice (some ⟨g, 0, none⟩) m cg) m (byts (expand rs)) ∧ Below W.heap.size W wr

set_option maxRecDepth 20000 in
set_option maxHeartbeats 8000000 in
theorem spReadRuns_any (s : ByteArray) (w : World) (hl : s.size ≤ 1048576) :
    Calls Tryd.prog 4 #[.string s] w fun e w' => e = .returned (.tuple #[.string (rrS (byt s)), .bool (rrB (byt s))]) ∧ Below w.heap.size w w' := by
  obtain ⟨j0, hj, hj0, hj1, hj2⟩ := info_parts info_u8K
  go_enter Tryd.func4, Tryd.ntmps4
  go_wp2_with fail
  refine (l01Split_any s _ hl).mono ?_
  rintro e W ⟨gA, cA, rfl, hrow, hbW⟩
  obtain ⟨n, hn⟩ : ∃ n, n = (splitW 32 (byt s)).length := ⟨_, rfl⟩
  have hn1 : n ≤ 1048577 := by
    have := splitW_len 32 (byt s)
    rw [byt_size] at this
    omega
  rw [← hn] at hrow ⊢
  have rA : Rd W W.heap.size 1 (some ⟨gA, 0, none⟩) n (sts (splitW 32 (byt s))) := Rd.own hrow
  have HN := Lib.hid hn
  have HBW := Lib.hid hbW
  have HNO := Lib.hid (show rrO (byt s) = none → Ending.returned (.tuple #[.string ⟨#[]⟩, .bool false]) = .returned (.tuple #[.string (rrS (byt s)), .bool (rrB (byt s))]) from fun h => by
    unfold rrS rrB
    rw [h]
    rfl)
  clear hrow hn hbW
  go_wp2
  go_loopw [5, 6, 7, 8, 9] (fun o q _ _ _ wr => RrR (byt s) W wr o q) (fun _ q _ _ _ _ => n - (intOf q).toNat)
  case atStart => exact ⟨0, 0, W.heap.size, 0, [], Nat.zero_le _, rfl, rfl, rfl, RdW.zero _, own_lit W #[] 0 rfl (Nat.le_refl _) (by omega) rfl, ba (b0 W) (.cells #[] 5)⟩
  case round =>
    obtain ⟨wo, rfl⟩ : ∃ wo : World, wo = wr := ⟨_, rfl⟩
    obtain ⟨k, m, g, cg, rs, hk, rfl, hm, rfl, hrw, hown, hbw⟩ := hrel
    have hbase := hbw.size
    have HB0 := Lib.hid hbw
    have HRW := Lib.hid hrw
    have hmk : m ≤ 20 * k := by rw [hm]; exact hrw.len
    rw [← HN.out] at hk
    by_cases hlt : k < n
    · have HKS := Lib.hid (show k < (splitW 32 (byt s)).length by rw [← HN.out]; exact hlt)
      have i1 : (k : Int) < (n : Int) := by omega
      obtain ⟨x, hx⟩ : ∃ x, x = (splitW 32 (byt s))[k]'HKS.out := ⟨_, rfl⟩
      obtain ⟨X, hX⟩ : ∃ X, X = bs_ x := ⟨_, rfl⟩
      obtain ⟨bA, oA, hA, hAb, hcA⟩ := rA.at_ hlt
      have dA := hcA k _ (sts_get _ k HKS.out)
      rw [← hx, ← hX] at dA
      injection hA with hA
      injection hA with e1 e2
      subst e1 e2
      rw [Nat.zero_add] at dA
      have HDW := Lib.hid dA
      replace dA := cell_later hbw dA
      have HXL := Lib.hid (show X.size = x.length by rw [hX, bs_size])
      have hXs : X.size ≤ 1048576 := by
        rw [HXL.out, hx]
        have := splitW_word 32 (byt s) _ (List.getElem_mem HKS.out)
        rw [byt_size] at this
        omega
      have HX := Lib.hid hx
      have HXX := Lib.hid hX
      have HM := Lib.hid hm
      have HOWN := Lib.hid hown
      clear hx hX hrw hbw hm
      go_upto_region 6 with fail
      go_cut [52] (fun s52 wx => s52 = .bool (badW x (expand rs)) ∧ Below wo.heap.size wo wx)
      case first =>
        have l1 := fun x : Later wo => lat_cell x dA
        by_cases h2 : X.size < 2
        · have g1 : decide ((X.size : Int) < 2) = true := decide_eq_true (by omega)
          have HB := Lib.hid (show badW x (expand rs) = true by unfold badW; rw [decide_eq_true (show x.length < 2 by rw [← HXL.out]; exact h2)]; rfl)
          clear h2
          refine wp_region_later (by kernel_rfl) (by kernel_rfl) ?_
          repeat (go_big_quiet_step (fail))
          refine wpQuiet_nil ?_
          intro wt hbt
          go_wp2
          go_meet
          exact ⟨by rw [HB.out], hbt⟩
        · have g1 : decide ((X.size : Int) < 2) = false := decide_eq_false (by omega)
          have h0 : 0 < X.size := by omega
          have HX0 := Lib.hid (show X[0] = x.headD 0 by
            have h1 : 0 < x.length := by rw [← HXL.out]; exact h0
            have e := byt_at X 0 h0
            rw [← e]
            cases x with
            | nil => simp at h1
            | cons a r => simp [HXX.out, byt_bs])
          cases hlt2 : letN (X[0].toNat : Int) with
          | false =>
            have HB := Lib.hid (show badW x (expand rs) = true by unfold badW letC; rw [← HX0.out, hlt2]; simp)
            have HLT := Lib.hid (fun V => l05Letter_any (X[0].toNat : Int) V)
            rw [hlt2] at HLT
            refine wp_region_later (by kernel_rfl) (by kernel_rfl) ?_
            repeat (go_big_quiet_step ((go_at_call 7; exact lat_pure (HLT.out _))))
            refine wpQuiet_nil ?_
            intro wt hbt
            go_wp2
            go_meet
            exact ⟨by rw [HB.out], hbt⟩
          | true =>
            have HLT := Lib.hid (fun V => l05Letter_any (X[0].toNat : Int) V)
            rw [hlt2] at HLT
            by_cases hm0 : m = 0
            · subst hm0
              have HB := Lib.hid (show badW x (expand rs) = false by
                unfold badW letC
                rw [← HX0.out, hlt2, decide_eq_false (show ¬ x.length < 2 by rw [← HXL.out]; exact h2), List.eq_nil_of_length_eq_zero HM.out.symm]
                rfl)
              refine wp_region_later (by kernel_rfl) (by kernel_rfl) ?_
              repeat (go_big_quiet_step ((go_at_call 7; exact lat_pure (HLT.out _))))
              refine wpQuiet_nil ?_
              intro wt hbt
              go_wp2
              go_meet
              exact ⟨by rw [HB.out], hbt⟩
            · obtain ⟨m', rfl⟩ : ∃ m', m = m' + 1 := ⟨m - 1, by omega⟩
              have hme : m' < (expand rs).length := by rw [← HM.out]; omega
              have i2 : (0 : Int) < ((m' + 1 : Nat) : Int) := by omega
              have i3 : wrap64 (((m' + 1 : Nat) : Int) - 1) = (m' : Int) := by unfold wrap64; omega
              have i4 : IntKind.i64.wrap (((m' + 1 : Nat) : Int) - 1) = (m' : Int) := by rw [IntKind.wrap_i64]; omega
              have i5 : (m' : Int) < ((m' + 1 : Nat) : Int) := by omega
              have kc := own_cell hown m' (by rw [byts_length]; exact hme)
              have HG := Lib.hid (show (expand rs).getLast? = some ((expand rs)[m']) by
                rw [List.getLast?_eq_getElem?, ← HM.out, Nat.add_sub_cancel, List.getElem?_eq_getElem hme])
              have kc2 : wo.cell? ⟨g, m', none⟩ = some (.int .u8 (((expand rs)[m']).toNat : Int)) := by
                rw [kc]
                simp [byts]
              obtain ⟨c, hc⟩ : ∃ c, c = (expand rs)[m'] := ⟨_, rfl⟩
              rw [← hc] at HG kc2
              have l2 := fun x : Later wo => lat_cell x kc2
              have HBW2 := Lib.hid (show badW x (expand rs) = decide (c = X[0]) by
                unfold badW letC
                rw [← HX0.out, hlt2, decide_eq_false (show ¬ x.length < 2 by rw [← HXL.out]; exact h2), HG.out]
                by_cases e : c = X[0]
                · rw [e]; simp
                · simp [e])
              clear kc hc HG HX0 h2 hown
              by_cases he : c = X[0]
              · have HB := Lib.hid (show badW x (expand rs) = true by rw [HBW2.out]; exact decide_eq_true he)
                have e5 := beq_t (show (c.toNat : Int) = (X[0].toNat : Int) by rw [he])
                clear he HBW2
                refine wp_region_later (by kernel_rfl) (by kernel_rfl) ?_
                repeat (go_big_quiet_step ((go_at_call 7; exact lat_pure (HLT.out _))))
                refine wpQuiet_nil ?_
                intro wt hbt
                go_wp2
                go_meet
                exact ⟨by rw [HB.out], hbt⟩
              · have HB := Lib.hid (show badW x (expand rs) = false by rw [HBW2.out]; exact decide_eq_false he)
                have e5 := beq_f (show ¬ (c.toNat : Int) = (X[0].toNat : Int) from fun e => he (UInt8.toNat_inj.1 (by omega)))
                clear he HBW2
                refine wp_region_later (by kernel_rfl) (by kernel_rfl) ?_
                repeat (go_big_quiet_step ((go_at_call 7; exact lat_pure (HLT.out _))))
                refine wpQuiet_nil ?_
                intro wt hbt
                go_wp2
                go_meet
                exact ⟨by rw [HB.out], hbt⟩
      case rest =>
        obtain ⟨rfl, hbc⟩ := hcut
        have HB1 := Lib.hid (HB0.out.trans (hbc.mono hbase))
        have hbase1 : W.heap.size ≤ wc.heap.size := HB1.out.size
        have hown1 := own_bs HOWN.out hbc
        have dA1 := cell_later hbc dA
        clear hbc dA hown
        cases hbad : badW x (expand rs) with
        | true =>
          have HE := Lib.hid (HNO.out (bad_rr HKS.out HX.out HRW.out hbad))
          clear hbad
          go_wp2
          go_ret2
          exact ⟨HE.out, HBW.out.trans (HB1.out.mono HBW.out.size)⟩
        | false =>
          obtain ⟨c, t, hct, hlc, hlast⟩ := good_wd hbad
          have HCT := Lib.hid (show (splitW 32 (byt s))[k]'HKS.out = c :: t by rw [← HX.out, hct])
          have h0 : 0 < X.size := by rw [HXL.out, hct, List.length_cons]; omega
          have hXt : byt (X.extract 1 X.size) = t := by rw [tail_byt, HXX.out, byt_bs, hct]; rfl
          have HXC := Lib.hid (show X[0] = c by rw [← byt_at X 0 h0]; simp [HXX.out, byt_bs, hct])
          have HLAST := Lib.hid hlast
          have HNM := Lib.hid (fun V => l01Number_any (X.extract 1 X.size) V (by simp; omega))
          rw [hXt] at HNM
          clear hbad hlc hXt hct hlast
          go_wp2_with fail
          refine (HNM.out _).mono ?_
          rintro e w1 ⟨⟨v, rfl, hv, v0, v1⟩ | ⟨rfl, hnt⟩, hb1⟩
          · have HND := Lib.hid (numD_itoa hv)
            cases hin : insideB v 1 20 with
            | false =>
              have HE := Lib.hid (HNO.out (rr_word HKS.out (by rw [HCT.out]; exact wordR_num (by rw [HND.out, if_neg (fun e => by rw [insideB_mk e.1 e.2] at hin; cases hin)]))))
              have HII := Lib.hid (fun V => l00In_any v 1 20 V)
              rw [hin] at HII
              clear hin
              go_wp2_with fail
              refine (HII.out _).mono ?_
              rintro e w2 ⟨rfl, rfl⟩
              go_wp2
              go_ret2
              exact ⟨HE.out, HBW.out.trans ((HB1.out.trans (hb1.mono hbase1)).mono HBW.out.size)⟩
            | true =>
              have hvr := insideB_true hin
              have HII := Lib.hid (fun V => l00In_any v 1 20 V)
              rw [hin] at HII
              clear hin
              go_wp2_with fail
              refine (HII.out _).mono ?_
              rintro e w2 ⟨rfl, rfl⟩
              obtain ⟨V, rfl⟩ : ∃ V : Nat, v = (V : Int) := ⟨v.toNat, by omega⟩
              have hV20 : V ≤ 20 := by omega
              have HRN := Lib.hid (show RdW (byt s) (k + 1) (rs ++ [(c, V)]) from HRW.out.next HKS.out HCT.out (by rw [HND.out, if_pos hvr]; rfl) HLAST.out)
              have HB2 := Lib.hid (HB1.out.trans (hb1.mono hbase1))
              have HO1 := Lib.hid (show w1.ownsRow W.heap.size 5 1 (.slice (some ⟨g, 0, none⟩) (m + 0) cg) (m + 0) (byts (expand rs ++ List.replicate 0 c)) by rw [List.replicate_zero, List.append_nil]; exact own_bs hown1 hb1)
              have i9 : m ≤ 20971520 := by omega
              have i10 := hb1.size
              clear hown1 hb1 dA1 hvr v0 v1 hv hXs hmk HND
              go_wp2
              go_loopw [5, 9] (fun o q wr => ∃ (j gg cc : Nat), j ≤ V ∧ q = .int .i64 j ∧ o = .slice (some ⟨gg, 0, none⟩) (m + j) cc ∧ wr.ownsRow W.heap.size 5 1 (.slice (some ⟨gg, 0, none⟩) (m + j) cc) (m + j) (byts (expand rs ++ List.replicate j c)) ∧ Below W.heap.size W wr) (fun _ q _ => V - (intOf q).toNat)
              case atStart => exact ⟨0, g, cg, Nat.zero_le _, rfl, rfl, HO1.out, HB2.out⟩
              case round =>
                obtain ⟨wi, rfl⟩ : ∃ wi : World, wi = wr := ⟨_, rfl⟩
                obtain ⟨j, gg, cc, hjV, rfl, rfl, howni, hbwi⟩ := hrel
                have hbi := hbwi.size
                have HBI := Lib.hid hbwi
                by_cases hjl : j < V
                · have i11 : (j : Int) < (V : Int) := by omega
                  have dI := cell_later hbwi HDW.out
                  clear hbwi
                  go_wp2_with (at_builtin; refine wpList_ap rfl (.tmp 74) (.tmp 80) 27 rfl W.heap.size 5 j0 _ 1 1 Tryd.underlying27 hj hj0 hj1 hj2 rfl (by omega) _ (m + j) _ (byts (expand rs ++ List.replicate j c)) rfl wi howni 1 #[.int .u8 (X[0].toNat : Int)] wi.heap.size rfl rfl rfl (by intro v hv; simp at hv; subst hv; rfl) (by omega) (by omega) (by omega) hbi ?_; intro g2 cap w6 hown6 hb6 hg6 _ _)
                  have HW6 := Lib.hid (show w6.ownsRow W.heap.size 5 1 (.slice (some ⟨g2, 0, none⟩) (m + (j + 1)) cap) (m + (j + 1)) (byts (expand rs ++ List.replicate (j + 1) c)) by
                    rw [show byts (expand rs ++ List.replicate (j + 1) c) = byts (expand rs ++ List.replicate j c) ++ [.int .u8 (X[0].toNat : Int)] by rw [List.replicate_succ', ← List.append_assoc, byts_snoc, HXC.out]]
                    exact hown6)
                  exact ⟨⟨j + 1, g2, cap, by omega, by go_num, rfl, HW6.out, HBI.out.trans hb6⟩, by simp [intOf]; omega⟩
                · obtain rfl : j = V := by omega
                  have i11 : ¬ (j : Int) < (j : Int) := by omega
                  clear hbwi
                  go_wp2
                  go_roundw
                  case rel =>
                    have P : RrR (byt s) W wi (.slice (some ⟨gg, 0, none⟩) (m + j) cc) (.int .i64 ((k : Int) + 1)) := ⟨k + 1, m + j, gg, cc, rs ++ [(c, j)], HKS.out, by go_num, by rw [expand_snoc, List.length_append, List.length_replicate, HM.out], rfl, HRN.out, by rw [expand_snoc]; exact howni, HBI.out⟩
                    first | exact P | exact ⟨_, P, rfl⟩ | exact ⟨_, _, P, rfl, rfl⟩ | exact ⟨_, _, _, P, rfl, rfl, rfl⟩ | exact ⟨_, _, _, _, P, rfl, rfl, rfl, rfl⟩ | exact ⟨_, _, _, _, _, P, rfl, rfl, rfl, rfl, rfl⟩ | exact ⟨_, _, _, _, _, _, P, rfl, rfl, rfl, rfl, rfl, rfl⟩ | exact ⟨_, _, _, _, _, _, _, P, rfl, rfl, rfl, rfl, rfl, rfl, rfl⟩ | exact ⟨_, _, _, _, _, _, _, _, P, rfl, rfl, rfl, rfl, rfl, rfl, rfl, rfl⟩
                  case measure => (simp [intOf]; try omega)
          · have HE := Lib.hid (HNO.out (rr_word HKS.out (by rw [HCT.out]; exact wordR_num (numD_no hnt))))
            clear hnt
            go_wp2
            go_ret2
            exact ⟨HE.out, HBW.out.trans ((HB1.out.trans (hb1.mono hbase1)).mono HBW.out.size)⟩
    · obtain rfl : k = n := by omega
      have HKN := Lib.hid (show RdW (byt s) (splitW 32 (byt s)).length rs by rw [← HN.out]; exact HRW.out)
      have HFN := Lib.hid HKN.out.fin
      have hconv : (convert 27 9 (.slice (some ⟨g, 0, none⟩) m cg)).run Tryd.prog wo = .ok (.string (bs_ (expand rs))) wo := conv_text hown
      have HOK := Lib.hid (fun V => l05Ok_big (bs_ (expand rs)) V (by rw [bs_size, ← hm]; omega))
      clear hown hm hrw
      cases hp : progB (bs_ (expand rs)) with
      | true =>
        rw [hp] at HOK HFN
        have HE := Lib.hid (show Ending.returned (.tuple #[.string (bs_ (expand rs)), .bool true]) = .returned (.tuple #[.string (rrS (byt s)), .bool (rrB (byt s))]) by
          unfold rrS rrB
          rw [HFN.out]
          rfl)
        clear hp
        go_wp2_with fail
        refine (HOK.out _).mono ?_
        rintro e w2 ⟨rfl, rfl⟩
        go_wp2
        go_ret2
        exact ⟨HE.out, HBW.out.trans (HB0.out.mono HBW.out.size)⟩
      | false =>
        rw [hp] at HOK HFN
        have HE := Lib.hid (HNO.out (by rw [HFN.out]; rfl))
        clear hp
        go_wp2_with fail
        refine (HOK.out _).mono ?_
        rintro e w2 ⟨rfl, rfl⟩
        go_wp2
        go_ret2
        exact ⟨HE.out, HBW.out.trans (HB0.out.mono HBW.out.size)⟩
end Go.Proofs.YtkmejkeanmjfbaaDoor
