/- KeysFor, in the program. KeysFor, in the reference. -/
import Derived.Test.YtkmejkeanmjfbaaKeysFn
import Derived.Test.YtkmejkeanmjfbaaEqualInts
/-! ### KeysFor, in the program. -/
namespace Go.Proofs.Ytkmejkeanmjfbaa
open Go.RowKit

theorem l_eq_or (a b : Int) : (a == b) = true ∧ a = b ∨ (a == b) = false ∧ ¬ a = b := by
  by_cases h : a = b
  · exact .inl ⟨beq_t h, h⟩
  · exact .inr ⟨beq_f h, h⟩
theorem key_two {n : Int} (h : keyN n = true) : n = 109 ∨ n = 110 := by
  unfold keyN at h
  simpa using h
theorem key_not {n : Int} (h : keyN n = false) : ¬ n = 109 ∧ ¬ n = 110 := by
  unfold keyN at h
  simpa using h
theorem ret_sv {a b : ByteArray} {c d : Int} (h : a = b) (k : c = d) : Ending.returned (.tuple #[.string a, .int .i64 c]) = .returned (.tuple #[.string b, .int .i64 d]) := by rw [h, k]
/-- Behind k columns. -/
def KfR (s : ByteArray) (ys : List Int) (W wr : World) (q9 q10 : Value) : Prop := ∃ (k m g cg : Nat), k ≤ s.size ∧ m = keysTo s k ∧ m ≤ 20 ∧ q10 = .int .i64 k ∧ q9 = .slice (some ⟨g, 0, none⟩) m cg ∧
  wr.ownsRow W.heap.size 5 1 (.slice (some ⟨g, 0, none⟩) m cg) m (byts (kfTo s ys k)) ∧ Below W.heap.size W wr

set_option maxRecDepth 20000 in
set_option maxHeartbeats 4000000 in
theorem KeysFor_any (s : ByteArray) (A : Option Addr) (c : Nat) (xs : List Int) (C : Option Addr) (d : Nat) (ys : List Int) (w : World) (hs : s.size ≤ 1048576) (ha : Rd w w.heap.size 1 A xs.length (ints xs)) (hl : xs.length ≤ 1048576) (hc : xs.length ≤ c) (hb : Rd w w.heap.size 1 C ys.length (ints ys)) (hl2 : ys.length ≤ 1048576) (hd : ys.length ≤ d) :
    Calls Try.prog 9 #[.string s, .agg #[.slice A xs.length c], .agg #[.slice C ys.length d]] w fun e w' => e = .returned (.tuple #[.string (kfS s xs ys), .int .i64 (kfC s xs ys)]) ∧ Below w.heap.size w w' := by
  obtain ⟨j0, hj, hj0, hj1, hj2⟩ := info_parts info_u8K
  obtain ⟨W, hW⟩ : ∃ W, W = (w.alloc (.cells #[.slice A xs.length c] 26)).alloc (.cells #[.slice C ys.length d] 26) := ⟨_, rfl⟩
  have T0 : Below w.heap.size w W := by rw [hW]; exact ba (ba (b0 w) _) _
  have ra : Rd W W.heap.size 1 A xs.length (ints xs) := by rw [hW]; exact (ha.a1 _).a1 _
  have rb : Rd W W.heap.size 1 C ys.length (ints ys) := by rw [hW]; exact (hb.a1 _).a1 _
  have k1 : W.cell? ⟨w.heap.size, 0, none⟩ = some (.slice A xs.length c) := by rw [hW]; exact cell_alloc (cell_new rfl rfl) _
  have k2 : W.cell? ⟨w.heap.size + 1, 0, none⟩ = some (.slice C ys.length d) := by rw [hW]; exact cell_new (by simp) rfl
  have HW := Lib.hid hW
  obtain ⟨z, hz⟩ : ∃ z, z = pgC s true [xs, ys] := ⟨_, rfl⟩
  have HPC := Lib.hid (show Calls Try.prog 23 #[.string s, .bool true, .slice (some ⟨w.heap.size + 1 + 1, 0, none⟩) 2 2] (W.alloc (.cells #[.slice A xs.length c, .slice C ys.length d] 26)) (fun e w' => e = .returned (.int .i64 z) ∧ Below (W.alloc (.cells #[.slice A xs.length c, .slice C ys.length d] 26)).heap.size (W.alloc (.cells #[.slice A xs.length c, .slice C ys.length d] 26)) w') from by
    have h := programCode_any s true (some ⟨W.heap.size, 0, none⟩) 2 [⟨A, c, xs⟩, ⟨C, d, ys⟩] (W.alloc (.cells #[.slice A xs.length c, .slice C ys.length d] 26)) (rdd2 ra hc rb hd) (by simp) hs (fun h hh => by
      simp only [List.mem_cons, List.not_mem_nil, or_false] at hh
      rcases hh with rfl | rfl
      · exact hl
      · exact hl2)
    rw [show cards [⟨A, c, xs⟩, ⟨C, d, ys⟩] = [xs, ys] from rfl, ← hz, show W.heap.size = w.heap.size + 1 + 1 by rw [hW]; simp] at h
    exact h)
  have HZ := Lib.hid hz
  have TB := ba (b0 W) (.cells #[.slice A xs.length c, .slice C ys.length d] 26)
  clear hW ha hb hz
  go_enter Try.func9, Try.ntmps9
  go_wp2_with fail
  rw [← HW.out]
  refine HPC.out.mono ?_
  rintro e w1 ⟨rfl, hb1⟩
  have T1 := bs TB hb1
  have HT1 := Lib.hid (bs T0 T1)
  have q1 := cell_later T1 k1
  have q2 := cell_later T1 k2
  have ra1 := ra.up T1
  have rb1 := rb.up T1
  clear hb1 T1 TB k1 k2 ra rb HPC T0
  by_cases h0 : z = 0
  · have n0 : (z != 0) = false := bne_f h0
    have HPZ := Lib.hid (show pgC s true [xs, ys] = 0 by rw [← HZ.out, h0])
    have HOK := Lib.hid (pg_ok2 HPZ.out)
    have HC := Lib.hid (show kfC s xs ys = kfQ s xs ys by unfold kfC; rw [if_pos HPZ.out])
    rw [HOK.out.2.2.1] at q1 ra1
    rw [HOK.out.2.2.2.2] at q2 rb1
    have HRA := Lib.hid ra1
    have HRB := Lib.hid rb1
    have HQ1 := Lib.hid q1
    have HQ2 := Lib.hid q2
    have hs20 := (progB_len HOK.out.1).2
    clear ra1 rb1 h0 q1 q2
    go_wp2
    go_loopw [9, 10, 11, 12] (fun q9 q10 _ _ wr => KfR s ys w1 wr q9 q10) (fun _ q _ _ _ => s.size - (intOf q).toNat)
    case atStart => exact ⟨0, 0, w1.heap.size, 0, Nat.zero_le _, rfl, by omega, rfl, rfl, own_lit w1 #[] 0 rfl (Nat.le_refl _) (by omega) rfl, ba (b0 w1) _⟩
    case round =>
      obtain ⟨wo, rfl⟩ : ∃ wo : World, wo = wr := ⟨_, rfl⟩
      obtain ⟨k, m, g, cg, hk, hm, hm20, rfl, rfl, hown, hbw⟩ := hrel
      have HM := Lib.hid hm
      have hsz := hbw.size
      have HBW := Lib.hid hbw
      clear hm
      by_cases hlt : k < s.size
      · have i1 : (k : Int) < (s.size : Int) := by omega
        have p2 := cell_later hbw HQ2.out
        have rb2 := HRB.out.up hbw
        obtain ⟨b3, o3, rfl, hb3, hcell⟩ := rb2.at_ hlt
        have hky : k < ys.length := by rw [HOK.out.2.2.2.2]; exact hlt
        have d1 := hcell k _ (ints_get ys k hky)
        have HG := Lib.hid (getD_of hky)
        clear rb2 hcell hbw
        cases hkn : keyN (s[k].toNat : Int) with
        | true =>
          have HK1 := Lib.hid (show kfTo s ys (k + 1) = kfTo s ys k ++ [keyCh ys[k]] by rw [kfTo_yes hlt hkn, HG.out])
          have HM1 := Lib.hid (show keysTo s (k + 1) = m + 1 by rw [keysTo_yes hlt hkn, HM.out])
          have hm1 : m + 1 ≤ 20 := by have := keysTo_le s (k + 1); have := keysN_le s; have := HM1.out; omega
          have h4 := key_two hkn
          clear hkn
          have h5 : (((s[k].toNat : Int) == 109) = true) ∨ (((s[k].toNat : Int) == 109) = false ∧ ((s[k].toNat : Int) == 110) = true) := by
            rcases h4 with h4 | h4
            · exact .inl (beq_t h4)
            · exact .inr ⟨beq_f (by omega), beq_t h4⟩
          clear h4
          rcases h5 with n1 | ⟨n1, n2⟩
          all_goals
            go_wp2_with fail
            refine (CharOf_any _ _).mono ?_
            rintro e w3 ⟨rfl, rfl⟩
            obtain ⟨ch, hch⟩ : ∃ ch, ch = keyCh ys[k] := ⟨_, rfl⟩
            rw [← hch] at HK1 ⊢
            clear hch
            go_wp2_with (at_builtin; refine wpList_ap rfl (.tmp 49) (.tmp 51) 22 rfl w1.heap.size 5 j0 _ 1 1 Try.underlying22 hj hj0 hj1 hj2 rfl (by omega) _ m _ (byts (kfTo s ys k)) rfl wo hown 1 #[.int .u8 (ch.toNat : Int)] wo.heap.size rfl rfl rfl (by intro v hv; simp at hv; subst hv; rfl) (by omega) (by omega) (by omega) hsz ?_; intro gg cap w6 hown6 hb6 hg6 _ _)
            have HO := Lib.hid (show w6.ownsRow w1.heap.size 5 1 (.slice (some ⟨gg, 0, none⟩) (m + 1) cap) (m + 1) (byts (kfTo s ys (k + 1))) by rw [HK1.out, byts_snoc]; exact hown6)
            have HB6 := Lib.hid (HBW.out.trans hb6)
            clear hown6 hown hb6 hg6 p2 d1
            go_wp2
            go_roundw
            case rel => exact ⟨k + 1, m + 1, gg, cap, by omega, HM1.out.symm, hm1, by go_num, rfl, HO.out, HB6.out⟩
            case measure => simp [intOf]; omega
        | false =>
          have HK1 := Lib.hid (show kfTo s ys (k + 1) = kfTo s ys k by rw [kfTo_no hlt hkn])
          have HM1 := Lib.hid (show keysTo s (k + 1) = m by rw [keysTo_no hlt hkn, HM.out])
          have h4 := key_not hkn
          have n1 := beq_f h4.1
          have n2 := beq_f h4.2
          have HO := Lib.hid hown
          clear hkn h4 hown p2 d1
          go_wp2
          go_roundw
          case rel => exact ⟨k + 1, m, g, cg, by omega, HM1.out.symm, hm20, by go_num, rfl, by rw [HK1.out]; exact HO.out, HBW.out⟩
          case measure => simp [intOf]; omega
      · obtain rfl : k = s.size := by omega
        have hconv : (convert 22 9 (.slice (some ⟨g, 0, none⟩) m cg)).run Try.prog wo = .ok (.string (kfT s ys)) wo := conv_text hown
        have HTS := Lib.hid (show (kfT s ys).size ≤ 1048576 by rw [kfT_size]; have := keysN_le s; omega)
        have p1 := cell_later hbw HQ1.out
        have p2 := cell_later hbw HQ2.out
        have HRB2 := Lib.hid (HRB.out.up hbw)
        have HPU := Lib.hid (punched_any s (kfT s ys) A c xs wo HOK.out.1 HOK.out.2.2.1 (HRA.out.up hbw) HTS.out)
        obtain ⟨y, hy⟩ : ∃ y, y = chkC s (kfT s ys) := ⟨_, rfl⟩
        rw [← hy] at HPU
        have HY := Lib.hid hy
        have HOWN := Lib.hid hown
        clear hown hbw hy
        go_wp2_with fail
        refine HPU.out.mono ?_
        rintro e w2 ⟨B, e2, rfl, ho, hb2⟩
        have HOWN2 := Lib.hid (own_bs HOWN.out hb2)
        have HT2 := Lib.hid (bs HT1.out (bs HBW.out hb2))
        have rb2 := HRB2.out.up hb2
        replace p1 := cell_later hb2 p1
        replace p2 := cell_later hb2 p2
        have rp := Rd.own ho
        have HPL := Lib.hid (show (pchR s xs (kfT s ys)).length ≤ 20 from pchR_length hs20)
        have TB2 := ba (b0 w2) (.cells #[.slice B (pchR s xs (kfT s ys)).length e2] 26)
        replace HOWN2 := Lib.hid (own_bs HOWN2.out TB2)
        replace HT2 := Lib.hid (bs HT2.out TB2)
        replace rb2 := rb2.up TB2
        replace p1 := cell_later TB2 p1
        replace p2 := cell_later TB2 p2
        replace rp := rp.up TB2
        have kd := cell_new (w := w2) (cs := #[.slice B (pchR s xs (kfT s ys)).length e2]) (e := 26) (j := 0) (H := w2.heap.size) rfl rfl
        clear hb2 ho hconv HPU TB2
        by_cases hy0 : y = 0
        · have y0 : (y != 0) = false := bne_f hy0
          have HR := Lib.hid (pchR_0 (xs := xs) (show chkC s (kfT s ys) = 0 by rw [← HY.out, hy0]))
          have HYL := Lib.hid HOK.out.2.2.2.2
          rw [← HYL.out] at rb2 p2
          have HSC := Lib.hid (SameCard_any B C e2 d (pchR s xs (kfT s ys)) ys _ rp rb2 (by have := HPL.out; omega) hl2)
          obtain ⟨R, hR⟩ : ∃ R, R = pchR s xs (kfT s ys) := ⟨_, rfl⟩
          rw [← hR] at HSC HR rp HPL kd HOWN2 HT2 p1 p2 rb2 ⊢
          have HQ : kfQ s xs ys = if R = ys then 0 else 3 := by
            unfold kfQ
            rw [← HY.out, ← HR.out]
            simp [hy0]
          have HQQ := Lib.hid HQ
          clear hR HQ
          by_cases he : R = ys
          · have HE := Lib.hid (show decide (R = ys) = true from decide_eq_true he)
            have HKC := Lib.hid (show kfC s xs ys = 0 by rw [HC.out, HQQ.out, if_pos he])
            have HKS := Lib.hid (show kfS s xs ys = kfT s ys by unfold kfS; rw [if_pos HKC.out])
            rw [HE.out] at HSC
            clear he hy0
            go_wp2_with fail
            refine HSC.out.mono ?_
            rintro e w3 ⟨rfl, hb3⟩
            have hconv : (convert 22 9 (.slice (some ⟨g, 0, none⟩) m cg)).run Try.prog w3 = .ok (.string (kfT s ys)) w3 := conv_text (own_bs HOWN2.out hb3)
            have HT3 := Lib.hid (bs HT2.out hb3)
            clear hb3
            go_wp2
            go_ret2
            exact ⟨ret_sv HKS.out.symm HKC.out.symm, HT3.out⟩
          · have HE := Lib.hid (show decide (R = ys) = false from decide_eq_false he)
            have HKC := Lib.hid (show kfC s xs ys = 3 by rw [HC.out, HQQ.out, if_neg he])
            have HKS := Lib.hid (show kfS s xs ys = ⟨#[]⟩ by unfold kfS; rw [if_neg (by rw [HKC.out]; omega)])
            rw [HE.out] at HSC
            clear he hy0
            go_wp2_with fail
            refine HSC.out.mono ?_
            rintro e w3 ⟨rfl, hb3⟩
            have HT3 := Lib.hid (bs HT2.out hb3)
            clear hb3
            go_wp2
            go_ret2
            exact ⟨ret_sv HKS.out.symm HKC.out.symm, HT3.out⟩
        · have y0 : (y != 0) = true := bne_t hy0
          have HKC := Lib.hid (show kfC s xs ys = 3 by rw [HC.out]; unfold kfQ; rw [← HY.out, if_neg (fun e => hy0 e.1)])
          have HKS := Lib.hid (show kfS s xs ys = ⟨#[]⟩ by unfold kfS; rw [if_neg (by rw [HKC.out]; omega)])
          clear hy0 rp rb2
          go_wp2
          go_ret2
          exact ⟨ret_sv HKS.out.symm HKC.out.symm, HT2.out⟩
  · have n0 : (z != 0) = true := bne_t h0
    have HC := Lib.hid (show kfC s xs ys = z by unfold kfC; rw [if_neg (by rw [← HZ.out]; exact h0), HZ.out])
    have HKS := Lib.hid (show kfS s xs ys = ⟨#[]⟩ by unfold kfS; rw [if_neg (by rw [HC.out]; exact h0)])
    clear ra1 rb1 h0
    go_wp2
    go_ret2
    exact ⟨ret_sv HKS.out.symm HC.out.symm, HT1.out⟩
end Go.Proofs.Ytkmejkeanmjfbaa

/-! ### KeysFor, in the reference. -/
namespace Go.Proofs.Ytkmejkeanmjfbaa
open Go.RowKit

theorem keyCh_yes {m : Int} (h : legalM m = true) : keyCh m = charM m := by unfold keyCh; rw [if_pos h]
/-- Behind k columns. -/
def KsR (s : ByteArray) (xs ys : List Int) (W wr : World) (q9 q10 : Value) : Prop := ∃ (k m g cg : Nat), k ≤ s.size ∧ m = keysTo s k ∧ m ≤ 20 ∧ q10 = .int .i64 k ∧ q9 = .slice (some ⟨g, 0, none⟩) m cg ∧
  wr.ownsRow W.heap.size 5 1 (.slice (some ⟨g, 0, none⟩) m cg) m (byts (kfTo s ys k)) ∧ Below W.heap.size W wr ∧ Ok s xs ys k

set_option maxRecDepth 20000 in
set_option maxHeartbeats 4000000 in
theorem spKeysFor_any (s : ByteArray) (A : Option Addr) (c : Nat) (xs : List Int) (C : Option Addr) (d : Nat) (ys : List Int) (w : World) (hs : s.size ≤ 1048576) (ha : Rd w w.heap.size 1 A xs.length (ints xs)) (hl : xs.length ≤ 1048576) (_hc : xs.length ≤ c) (hb : Rd w w.heap.size 1 C ys.length (ints ys)) (hl2 : ys.length ≤ 1048576) (_hd : ys.length ≤ d) :
    Calls Try.prog 10 #[.string s, .agg #[.slice A xs.length c], .agg #[.slice C ys.length d]] w fun e w' => e = .returned (.tuple #[.string (kfS s xs ys), .int .i64 (kfC s xs ys)]) ∧ Below w.heap.size w w' := by
  obtain ⟨j0, hj, hj0, hj1, hj2⟩ := info_parts info_u8K
  obtain ⟨W, hW⟩ : ∃ W, W = (w.alloc (.cells #[.slice A xs.length c] 26)).alloc (.cells #[.slice C ys.length d] 26) := ⟨_, rfl⟩
  have T0 : Below w.heap.size w W := by rw [hW]; exact ba (ba (b0 w) _) _
  have ra : Rd W W.heap.size 1 A xs.length (ints xs) := by rw [hW]; exact (ha.a1 _).a1 _
  have rb : Rd W W.heap.size 1 C ys.length (ints ys) := by rw [hW]; exact (hb.a1 _).a1 _
  have k1 : W.cell? ⟨w.heap.size, 0, none⟩ = some (.slice A xs.length c) := by rw [hW]; exact cell_alloc (cell_new rfl rfl) _
  have k2 : W.cell? ⟨w.heap.size + 1, 0, none⟩ = some (.slice C ys.length d) := by rw [hW]; exact cell_new (by simp) rfl
  have HW := Lib.hid hW
  obtain ⟨z, hz⟩ : ∃ z, z = pgC s true [xs, ys] := ⟨_, rfl⟩
  have HL5 := Lib.hid (l05Two_any s w.heap.size 0 A c xs (w.heap.size + 1) 0 C d ys W k1 ra hl k2 rb hl2 hs)
  rw [← hz] at HL5
  have HZ := Lib.hid hz
  clear hW ha hb hz
  go_enter Try.func10, Try.ntmps10
  go_wp2_with fail
  rw [← HW.out]
  refine HL5.out.mono ?_
  rintro e w1 ⟨rfl, T1⟩
  have HT1 := Lib.hid (bs T0 T1)
  have q1 := cell_later T1 k1
  have q2 := cell_later T1 k2
  have ra1 := ra.up T1
  have rb1 := rb.up T1
  clear T1 k1 k2 ra rb HL5 T0
  by_cases h0 : z = 0
  · have n0 : (z != 0) = false := bne_f h0
    have HPZ := Lib.hid (show pgC s true [xs, ys] = 0 by rw [← HZ.out, h0])
    have HOK := Lib.hid (pg_ok2 HPZ.out)
    have HC := Lib.hid (show kfC s xs ys = kfQ s xs ys by unfold kfC; rw [if_pos HPZ.out])
    have HBAD := Lib.hid (fun (k : Nat) (hk : k < s.size) (h : ¬ okAt s xs ys k) => (show kfC s xs ys = 3 ∧ kfS s xs ys = ⟨#[]⟩ from by
      have h1 : kfC s xs ys = 3 := by rw [HC.out]; exact kfQ_bad HOK.out.2.2.2.2 hk h
      exact ⟨h1, by unfold kfS; rw [if_neg (by rw [h1]; omega)]⟩))
    rw [HOK.out.2.2.1] at q1 ra1
    rw [HOK.out.2.2.2.2] at q2 rb1
    have HRA := Lib.hid ra1
    have HRB := Lib.hid rb1
    have HQ1 := Lib.hid q1
    have HQ2 := Lib.hid q2
    have hs20 := (progB_len HOK.out.1).2
    clear ra1 rb1 h0 q1 q2
    go_wp2
    go_loopw [9, 10, 11, 12] (fun q9 q10 _ _ wr => KsR s xs ys w1 wr q9 q10) (fun _ q _ _ _ => s.size - (intOf q).toNat)
    case atStart => exact ⟨0, 0, w1.heap.size, 0, Nat.zero_le _, rfl, by omega, rfl, rfl, own_lit w1 #[] 0 rfl (Nat.le_refl _) (by omega) rfl, ba (b0 w1) _, Ok.zero _ _ _⟩
    case round =>
      obtain ⟨wo, rfl⟩ : ∃ wo : World, wo = wr := ⟨_, rfl⟩
      obtain ⟨k, m, g, cg, hk, hm, hm20, rfl, rfl, hown, hbw, hok⟩ := hrel
      have HM := Lib.hid hm
      have HOKK := Lib.hid hok
      have hsz := hbw.size
      have HBW := Lib.hid hbw
      clear hm hok
      by_cases hlt : k < s.size
      · have i1 : (k : Int) < (s.size : Int) := by omega
        have p1 := cell_later hbw HQ1.out
        have p2 := cell_later hbw HQ2.out
        have ra2 := HRA.out.up hbw
        have rb2 := HRB.out.up hbw
        obtain ⟨b3, o3, rfl, hb3, hcell⟩ := rb2.at_ hlt
        obtain ⟨b4, o4, rfl, hb4, hcell4⟩ := ra2.at_ hlt
        have hky : k < ys.length := by rw [HOK.out.2.2.2.2]; exact hlt
        have hkx : k < xs.length := by rw [HOK.out.2.2.1]; exact hlt
        have d1 := hcell k _ (ints_get ys k hky)
        have d2 := hcell4 k _ (ints_get xs k hkx)
        have HG := Lib.hid (getD_of hky)
        have HG2 := Lib.hid (getD_of hkx)
        clear rb2 hcell hbw ra2 hcell4
        cases hkn : keyN (s[k].toNat : Int) with
        | true =>
          have HK1 := Lib.hid (show kfTo s ys (k + 1) = kfTo s ys k ++ [keyCh ys[k]] by rw [kfTo_yes hlt hkn, HG.out])
          have HM1 := Lib.hid (show keysTo s (k + 1) = m + 1 by rw [keysTo_yes hlt hkn, HM.out])
          have hm1 : m + 1 ≤ 20 := by have := keysTo_le s (k + 1); have := keysN_le s; have := HM1.out; omega
          have HOA := Lib.hid (ok_key (xs := xs) (ys := ys) hlt hkn)
          have HKN := Lib.hid hkn
          rw [HG.out] at HOA
          cases hlg : legalM ys[k] with
          | true =>
            have HCH := Lib.hid (keyCh_yes hlg)
            have HLG := Lib.hid hlg
            have HLY := Lib.hid (fun w => l03Char_yes ys[k] w hlg)
            rw [← HCH.out] at HLY
            obtain ⟨ch, hch⟩ : ∃ ch, ch = keyCh ys[k] := ⟨_, rfl⟩
            rw [← hch] at HK1 HOA HLY
            clear hch HCH hlg
            have hdc : ((s[k].toNat : Int) = 110 ∧ digB (ch.toNat : Int) = false) ∨ (okAt s xs ys k ∧ (((s[k].toNat : Int) == 110) = false ∨ (((s[k].toNat : Int) == 110) = true ∧ digB (ch.toNat : Int) = true))) := by
              by_cases e : (s[k].toNat : Int) = 110
              · cases hd : digB (ch.toNat : Int) with
                | true => exact .inr ⟨HOA.out.2 ⟨HLG.out, fun _ => hd⟩, .inr ⟨beq_t e, rfl⟩⟩
                | false => exact .inl ⟨e, rfl⟩
              · exact .inr ⟨HOA.out.2 ⟨HLG.out, fun h => absurd h e⟩, .inl (beq_f e)⟩
            clear hkn
            go_wp2_with fail
            refine (HLY.out _).mono ?_
            rintro e w3 ⟨rfl, rfl⟩
            go_wp2_with fail
            refine (l05Keyed_any (s[k].toNat : Int) _).mono ?_
            rw [HKN.out]
            rintro e w4 ⟨rfl, rfl⟩
            rcases hdc with ⟨e1, e2⟩ | ⟨hoa, e1⟩
            · have n1 : ((s[k].toNat : Int) == 110) = true := beq_t e1
              have HZ := Lib.hid (HBAD.out k hlt (fun h => by rw [(HOA.out.1 h).2 e1] at e2; simp at e2))
              clear e1
              go_wp2_with fail
              refine (l01Digit_any (ch.toNat : Int) _).mono ?_
              rw [e2]
              rintro e w4 ⟨rfl, rfl⟩
              clear e2
              go_wp2
              go_ret2
              exact ⟨ret_sv HZ.out.2.symm HZ.out.1.symm, bs HT1.out HBW.out⟩
            · have HON := Lib.hid (HOKK.out.succ hoa)
              clear hoa
              have HO := Lib.hid (show ∀ (gg cap : Nat) (w6 : World), w6.ownsRow w1.heap.size 5 1 (.slice (some ⟨gg, 0, none⟩) (m + 1) cap) (m + 1) (byts (kfTo s ys k) ++ [.int .u8 (ch.toNat : Int)]) → Below w1.heap.size wo w6 → KsR s xs ys w1 w6 (.slice (some ⟨gg, 0, none⟩) (m + 1) cap) (.int .i64 ((k : Int) + 1)) from fun gg cap w6 h1 h2 => ⟨k + 1, m + 1, gg, cap, by omega, HM1.out.symm, hm1, by go_num, rfl, by rw [HK1.out, byts_snoc]; exact h1, HBW.out.trans h2, HON.out⟩)
              rcases e1 with n1 | ⟨n1, e2⟩
              · go_wp2_with (at_builtin; refine wpList_ap rfl (.tmp 52) (.tmp 54) 22 rfl w1.heap.size 5 j0 _ 1 1 Try.underlying22 hj hj0 hj1 hj2 rfl (by omega) _ m _ (byts (kfTo s ys k)) rfl wo hown 1 #[.int .u8 (ch.toNat : Int)] wo.heap.size rfl rfl rfl (by intro v hv; simp at hv; subst hv; rfl) (by omega) (by omega) (by omega) hsz ?_; intro gg cap w6 hown6 hb6 hg6 _ _)
                have P := HO.out gg cap w6 hown6 hb6
                clear hown6 hown hb6 hg6 p2 d1 p1 d2
                go_wp2
                go_roundw
                case rel =>
                  first | exact P | exact ⟨_, P, rfl⟩ | exact ⟨_, _, P, rfl, rfl⟩ | exact ⟨_, _, _, P, rfl, rfl, rfl⟩ | exact ⟨_, _, _, _, P, rfl, rfl, rfl, rfl⟩ | exact ⟨_, _, _, _, _, P, rfl, rfl, rfl, rfl, rfl⟩ | exact ⟨_, _, _, _, _, _, P, rfl, rfl, rfl, rfl, rfl, rfl⟩ | exact ⟨_, _, _, _, _, _, _, P, rfl, rfl, rfl, rfl, rfl, rfl, rfl⟩ | exact ⟨_, _, _, _, _, _, _, _, P, rfl, rfl, rfl, rfl, rfl, rfl, rfl, rfl⟩
                case measure => simp [intOf]; omega
              · go_wp2_with fail
                refine (l01Digit_any (ch.toNat : Int) _).mono ?_
                rw [e2]
                rintro e w4 ⟨rfl, rfl⟩
                clear e2
                go_wp2_with (at_builtin; refine wpList_ap rfl (.tmp 52) (.tmp 54) 22 rfl w1.heap.size 5 j0 _ 1 1 Try.underlying22 hj hj0 hj1 hj2 rfl (by omega) _ m _ (byts (kfTo s ys k)) rfl wo hown 1 #[.int .u8 (ch.toNat : Int)] wo.heap.size rfl rfl rfl (by intro v hv; simp at hv; subst hv; rfl) (by omega) (by omega) (by omega) hsz ?_; intro gg cap w6 hown6 hb6 hg6 _ _)
                have P := HO.out gg cap w6 hown6 hb6
                clear hown6 hown hb6 hg6 p2 d1 p1 d2
                go_wp2
                go_roundw
                case rel =>
                  first | exact P | exact ⟨_, P, rfl⟩ | exact ⟨_, _, P, rfl, rfl⟩ | exact ⟨_, _, _, P, rfl, rfl, rfl⟩ | exact ⟨_, _, _, _, P, rfl, rfl, rfl, rfl⟩ | exact ⟨_, _, _, _, _, P, rfl, rfl, rfl, rfl, rfl⟩ | exact ⟨_, _, _, _, _, _, P, rfl, rfl, rfl, rfl, rfl, rfl⟩ | exact ⟨_, _, _, _, _, _, _, P, rfl, rfl, rfl, rfl, rfl, rfl, rfl⟩ | exact ⟨_, _, _, _, _, _, _, _, P, rfl, rfl, rfl, rfl, rfl, rfl, rfl, rfl⟩
                case measure => simp [intOf]; omega
          | false =>
            have HLY := Lib.hid (fun w => l03Char_no ys[k] w hlg)
            have HZ := Lib.hid (HBAD.out k hlt (fun h => by rw [(HOA.out.1 h).1] at hlg; simp at hlg))
            clear hkn hlg
            go_wp2_with fail
            refine (HLY.out _).mono ?_
            rintro e w3 ⟨rfl, rfl⟩
            go_wp2_with fail
            refine (l05Keyed_any (s[k].toNat : Int) _).mono ?_
            rw [HKN.out]
            rintro e w4 ⟨rfl, rfl⟩
            go_wp2
            go_ret2
            exact ⟨ret_sv HZ.out.2.symm HZ.out.1.symm, bs HT1.out HBW.out⟩
        | false =>
          have HKN := Lib.hid hkn
          have HK1 := Lib.hid (show kfTo s ys (k + 1) = kfTo s ys k by rw [kfTo_no hlt hkn])
          have HM1 := Lib.hid (show keysTo s (k + 1) = m by rw [keysTo_no hlt hkn, HM.out])
          have HO := Lib.hid hown
          have HLY := Lib.hid (show ∃ (v : Int) (b : Bool), ∀ w : World, Calls Try.prog 37 #[.int .i64 ys[k]] w fun e w' => e = .returned (.tuple #[.int .u8 v, .bool b]) ∧ w = w' from by
            cases hlg : legalM ys[k] with
            | true => exact ⟨_, _, fun w => l03Char_yes ys[k] w hlg⟩
            | false => exact ⟨_, _, fun w => l03Char_no ys[k] w hlg⟩)
          have HP := Lib.hid (show okAt s xs ys k → ∀ q, KsR s xs ys w1 (wo.drewN q) (.slice (some ⟨g, 0, none⟩) m cg) (.int .i64 ((k : Int) + 1)) from fun h q => ⟨k + 1, m, g, cg, by omega, HM1.out.symm, hm20, by go_num, rfl, by rw [HK1.out]; exact HO.out, ⟨HBW.out.os, HBW.out.tape, HBW.out.output, HBW.out.size, HBW.out.block⟩, HOKK.out.succ h⟩)
          obtain ⟨v, b, hly⟩ := HLY.out
          have HLZ := Lib.hid hly
          have h4 : (s[k].toNat : Int) = 115 ∨ (s[k].toNat : Int) = 100 := by
            have := key_not hkn
            rcases letters HOK.out.1 hlt with h | h | h | h
            · exact absurd h this.1
            · exact absurd h this.2
            · exact .inl h
            · exact .inr h
          have hcase : (((s[k].toNat : Int) == 115) = true ∧ ((s[k].toNat : Int) == 100) = false ∧ ((ys[k] != 0) = false ∧ okAt s xs ys k ∨ (ys[k] != 0) = true ∧ ¬ okAt s xs ys k)) ∨ (((s[k].toNat : Int) == 115) = false ∧ ((s[k].toNat : Int) == 100) = true ∧ ((ys[k] != xs[k]) = false ∧ okAt s xs ys k ∨ (ys[k] != xs[k]) = true ∧ ¬ okAt s xs ys k)) := by
            rcases h4 with h4 | h4
            · have ho := ok_skip (xs := xs) (ys := ys) hlt h4
              rw [HG.out] at ho
              refine .inl ⟨beq_t h4, beq_f (by omega), ?_⟩
              by_cases e : ys[k] = 0
              · exact .inl ⟨bne_f e, ho.2 e⟩
              · exact .inr ⟨bne_t e, fun h => e (ho.1 h)⟩
            · have ho := ok_dup (xs := xs) (ys := ys) hlt HOK.out.2.2.1 h4
              rw [HG.out, HG2.out] at ho
              refine .inr ⟨beq_f (by omega), beq_t h4, ?_⟩
              by_cases e : ys[k] = xs[k]
              · exact .inl ⟨bne_f e, ho.2 e⟩
              · exact .inr ⟨bne_t e, fun h => e (ho.1 h)⟩
          clear hkn h4 hown hly
          go_wp2_with fail
          refine (HLZ.out _).mono ?_
          rintro e w3 ⟨rfl, rfl⟩
          go_wp2_with fail
          refine (l05Keyed_any (s[k].toNat : Int) _).mono ?_
          rw [HKN.out]
          rintro e w4 ⟨rfl, rfl⟩
          rcases hcase with ⟨n1, n2, ⟨n3, hoa⟩ | ⟨n3, hoa⟩⟩ | ⟨n1, n2, ⟨n3, hoa⟩ | ⟨n3, hoa⟩⟩
          · have HPP := Lib.hid (HP.out hoa)
            clear hoa
            go_wp2
            go_quiet (fail)
            go_wp2
            go_roundw
            case rel => first | exact HPP.out _ | exact ⟨_, HPP.out _, rfl⟩ | exact ⟨_, _, HPP.out _, rfl, rfl⟩ | exact ⟨_, _, _, HPP.out _, rfl, rfl, rfl⟩ | exact ⟨_, _, _, _, HPP.out _, rfl, rfl, rfl, rfl⟩
            case measure => simp [intOf]; omega
          · have HZ := Lib.hid (HBAD.out k hlt hoa)
            clear hoa
            go_wp2
            go_ret2
            exact ⟨ret_sv HZ.out.2.symm HZ.out.1.symm, bs HT1.out HBW.out⟩
          · have HPP := Lib.hid (HP.out hoa)
            clear hoa
            go_wp2
            go_quiet (fail)
            go_wp2
            go_roundw
            case rel => first | exact HPP.out _ | exact ⟨_, HPP.out _, rfl⟩ | exact ⟨_, _, HPP.out _, rfl, rfl⟩ | exact ⟨_, _, _, HPP.out _, rfl, rfl, rfl⟩ | exact ⟨_, _, _, _, HPP.out _, rfl, rfl, rfl, rfl⟩
            case measure => simp [intOf]; omega
          · have HZ := Lib.hid (HBAD.out k hlt hoa)
            clear hoa
            go_wp2
            go_quiet (fail)
            go_wp2
            go_ret2
            exact ⟨ret_sv HZ.out.2.symm HZ.out.1.symm, bs HT1.out ⟨HBW.out.os, HBW.out.tape, HBW.out.output, HBW.out.size, HBW.out.block⟩⟩
      · obtain rfl : k = s.size := by omega
        have hconv : (convert 22 9 (.slice (some ⟨g, 0, none⟩) m cg)).run Try.prog wo = .ok (.string (kfT s ys)) wo := conv_text hown
        have HKC := Lib.hid (show kfC s xs ys = 0 by rw [HC.out]; exact (kfQ_all HOK.out.2.2.2.2).2 HOKK.out)
        have HKS := Lib.hid (show kfS s xs ys = kfT s ys by unfold kfS; rw [if_pos HKC.out])
        clear hown hbw
        go_wp2
        go_ret2
        exact ⟨ret_sv HKS.out.symm HKC.out.symm, bs HT1.out HBW.out⟩
  · have n0 : (z != 0) = true := bne_t h0
    have HC := Lib.hid (show kfC s xs ys = z by unfold kfC; rw [if_neg (by rw [← HZ.out]; exact h0), HZ.out])
    have HKS := Lib.hid (show kfS s xs ys = ⟨#[]⟩ by unfold kfS; rw [if_neg (by rw [HC.out]; exact h0)])
    clear ra1 rb1 h0
    go_wp2
    go_ret2
    exact ⟨ret_sv HKS.out.symm HC.out.symm, HT1.out⟩
end Go.Proofs.Ytkmejkeanmjfbaa
