/- FewestPasses in the program. -/
import Derived.Test.YtkcnahjgkhgebaaGreatFewest
import Derived.Test.YtkcnahjgkhgebaaGreatFewCmp
import Derived.Test.YtkcnahjgkhgebaaGreatPlanFor
import Derived.Test.YtkcnahjgkhgebaaGreatSortedBy
namespace Go.Proofs.YtkcnahjgkhgebaaGreat
open Go.RowKit

theorem info_intF : (Tryz.prog.info? 3).map (fun i => (i.zero, i.size, i.bytes)) = some (some (.int .i64 0), 1, 8) := by kernel_rfl
theorem info_passF : (Tryz.prog.info? 46).map (fun i => (i.zero, i.size, i.bytes)) = some (some (.agg #[.int .i64 0, .int .i64 0]), 2, 16) := by kernel_rfl
/-- The best list of places among the first k sets. -/
def bstC (L T : List (List Int)) (al : List (Int × Int)) (k : Nat) : Option (List Nat) := bestB al.length (gdP L T al []) k
/-- Behind k sets. -/
def FiR (L T : List (List Int)) (al : List (Int × Int)) (w2 wr : World) (best found q : Value) : Prop := ∃ (k : Nat) (G : Option Addr) (n cg : Nat), k ≤ 2 ^ al.length ∧ q = .int .i64 k ∧ found = .bool (bstC L T al k).isSome ∧
  best = .slice G n cg ∧ n = ((bstC L T al k).getD []).length ∧ wr.ownsRow w2.heap.size 3 1 (.slice G n cg) n (ints (zs ((bstC L T al k).getD []))) ∧ Below w2.heap.size w2 wr
/-- Of the set k the first i places. -/
def FjR (al : List (Int × Int)) (k : Nat) (wo wr : World) (own list q : Value) : Prop := ∃ (i n : Nat) (G : Option Addr) (cg : Nat) (P : Option Addr) (cp : Nat), i ≤ al.length ∧ q = .int .i64 i ∧ n = (bitsOf i k).length ∧ own = .slice G n cg ∧ list = .slice P n cp ∧
  wr.ownsRow wo.heap.size 3 1 (.slice G n cg) n (ints (zs (bitsOf i k))) ∧ wr.ownsRow wo.heap.size 46 2 (.slice P n cp) n (prs (pickP al (bitsOf i k))) ∧ Below wo.heap.size wo wr

/-- Of the list d the first k places. -/
def FkR (al : List (Int × Int)) (d : List Nat) (wo wr : World) (o q : Value) : Prop := ∃ (k : Nat) (P : Option Addr) (cp : Nat), k ≤ d.length ∧ q = .int .i64 k ∧ o = .slice P k cp ∧ wr.ownsRow wo.heap.size 46 2 (.slice P k cp) k (prs (pickP al (d.take k))) ∧ Below wo.heap.size wo wr
section
variable {L T : List (List Int)} {al : List (Int × Int)} {k : Nat}
theorem bst_zero (L T : List (List Int)) (al : List (Int × Int)) : bstC L T al 0 = none := rfl
theorem bst_none_yes (h : bstC L T al k = none) (hg : gdP L T al [] (bitsOf al.length k) = true) : bstC L T al (k + 1) = some (bitsOf al.length k) := by
  unfold bstC at h ⊢
  simp only [bestB, h]
  rw [if_pos hg]
theorem bst_none_no (h : bstC L T al k = none) (hg : gdP L T al [] (bitsOf al.length k) = false) : bstC L T al (k + 1) = none := by
  unfold bstC at h ⊢
  simp only [bestB, h]
  rw [if_neg (by rw [hg]; simp)]
theorem bst_keep {b : List Nat} (h : bstC L T al k = some b) (hk : b.length < (bitsOf al.length k).length ∨ ((bitsOf al.length k).length = b.length ∧ nk b < nk (bitsOf al.length k)) ∨ gdP L T al [] (bitsOf al.length k) = false) : bstC L T al (k + 1) = some b := by
  unfold bstC at h ⊢
  simp only [bestB, h]
  rw [if_pos hk]
theorem bst_take {b : List Nat} (h : bstC L T al k = some b) (h1 : ¬ b.length < (bitsOf al.length k).length) (h2 : ¬ ((bitsOf al.length k).length = b.length ∧ nk b < nk (bitsOf al.length k))) (h3 : gdP L T al [] (bitsOf al.length k) = true) : bstC L T al (k + 1) = some (bitsOf al.length k) := by
  unfold bstC at h ⊢
  simp only [bestB, h]
  rw [if_neg]
  rintro (h4 | h4 | h4)
  · exact h1 h4
  · exact h2 h4
  · rw [h3] at h4; cases h4
theorem bst_asc {b : List Nat} (h : bstC L T al k = some b) : Asc al.length 0 b := ((bestB_ok al.length (gdP L T al []) k).2 b h).2.1
end
theorem cmp_nk {n : Nat} {b c : List Nat} (hn : n ≤ 40) (hb : Asc n 0 b) (hc : Asc n 0 c) (hl : b.length = c.length) : (0 < cmpN (zs b) (zs c)) ↔ nk c < nk b := by
  have h := cmpN_num (zs b) (zs c) (by rw [zs_length, zs_length, hl]) (zs_range fun x hx => by have := hb.2 x hx; omega) (zs_range fun x hx => by have := hc.2 x hx; omega)
  have h3 := cmpN_range (zs b) (zs c)
  have h1 : cmpN (zs b) (zs c) < 0 ↔ nk b < nk c := h.1
  have h2 : cmpN (zs b) (zs c) = 0 ↔ nk b = nk c := h.2
  omega
theorem bit_at : ∀ k : Fin 256, ∀ i : Fin 9, (bits BinOp.and IntKind.i64 ((k.val : Int) / 2 ^ i.val) 1 == 1) = (k.val / 2 ^ i.val % 2 == 1) := by decide +kernel
theorem zs_snoc (c : List Nat) (k : Nat) : zs (c ++ [k]) = zs c ++ [(k : Int)] := by simp [zs]
theorem pickP_snoc (al : List (Int × Int)) (c : List Nat) {k : Nat} (h : k < al.length) : pickP al (c ++ [k]) = pickP al c ++ [al[k]] := by
  unfold pickP
  rw [List.map_append, List.map_cons, List.map_nil]
  simp [List.getD, List.getElem?_eq_getElem h]
theorem pick_ok {W : Int} {al : List (Int × Int)} {c : List Nat} (h : ∀ q ∈ al, passOk W q = true) (hc : Asc al.length 0 c) : ∀ q ∈ pickP al c, passOk W q = true := by
  intro q hq
  obtain ⟨x, hx, rfl⟩ := List.mem_map.1 hq
  have := (hc.2 x hx).2
  rw [List.getD, List.getElem?_eq_getElem this]
  exact h _ (List.getElem_mem this)
theorem bitsOf_len (n s : Nat) : (bitsOf n s).length ≤ n := by
  have := List.length_filter_le (fun k => s / 2 ^ k % 2 == 1) (List.range n)
  rw [List.length_range] at this
  exact this

set_option maxRecDepth 20000 in
set_option maxHeartbeats 8000000 in
theorem FewestPasses_any (D : Option Addr) (c : Nat) (hs : List Hd) (L : List (List Int)) (a b : Int) (w : World) (ha : RdD w w.heap.size D hs) (hL : cards hs = L) (hl : hs.length + tot hs ≤ 1048576) (_hc : hs.length ≤ c) :
    Calls Tryz.prog 9 #[.slice D hs.length c, .agg #[.int .i64 a, .int .i64 b]] w fun e w' => ∃ A cp, e = .returned (.tuple #[.slice A (fewR L a b).length cp, .int .i64 (fewC L a b)]) ∧
      w'.ownsRow w.heap.size 46 2 (.slice A (fewR L a b).length cp) (fewR L a b).length (prs (fewR L a b)) ∧ Below w.heap.size w w' := by
  obtain ⟨j0, hj, hj0, hj1, hj2⟩ := info_parts info_intF
  obtain ⟨i0, hi, hi0, hi1, hi2⟩ := info_parts info_passF
  subst hL
  have T0 : Below w.heap.size w (w.alloc (.cells #[.int .i64 a, .int .i64 b] 31)) := ba (b0 w) _
  have ra := ha.a1 (.cells #[.int .i64 a, .int .i64 b] 31)
  by_cases hz : codeK (cards hs) a b = 0
  · by_cases h4 : 4 < b - a
    · have HC := Lib.hid (fewC_5 hz h4)
      have HZ := Lib.hid hz
      obtain ⟨q1, q2, q3⟩ := fieldOk_true (codeK_zero hz).2.1
      have hw := deckOk_wid (codeK_zero hz).1
      clear hz
      go_enter Tryz.func9, Tryz.ntmps9
      go_wp2_with fail
      refine (sortCode_any _ _ hs _ _ _ ra hl).mono ?_; rintro e w1 ⟨rfl, hb1⟩
      have k2 : w1.cell? ⟨w.heap.size, 0, none⟩ = some (.int .i64 a) := cell_later hb1 (cell_new rfl rfl)
      have k3 : w1.cell? ⟨w.heap.size, 1, none⟩ = some (.int .i64 b) := cell_later hb1 (cell_new rfl rfl)
      have e0 : codeK (cards hs) a b = 0 := HZ.out
      go_wp2
      go_ret2
      refine ⟨none, 0, ret_kk HC.out.1.symm (by rw [HC.out.2]; rfl), ?_, bs T0 hb1⟩
      rw [HC.out.2]
      exact World.ownsRow_nil _ _ _ _
    · obtain ⟨h1, h2, h3⟩ := codeK_zero hz
      obtain ⟨i, j, rfl, rfl, hij, hjw⟩ := fieldOk_nat h2
      have hw := deckOk_wid h1
      have HZ := Lib.hid hz
      have HC := Lib.hid (fewC_0 hz h4)
      have H1 := Lib.hid h1
      have e1 : ((j : Int) - (i : Int)).toNat = j - i := by omega
      have HAL := Lib.hid (plan_ok (W := deckW (cards hs)) hij hjw)
      have HPL := Lib.hid (planOf_length (j : Int) (j - i))
      have HBT := Lib.hid (few_least hz hij)
      have HBB := Lib.hid (show ∃ d, bestB (planOf (j : Int) (j - i)).length (gdP (cards hs) (sortedL (cards hs) (i : Int) (j : Int)) (planOf (j : Int) (j - i)) []) (2 ^ (planOf (j : Int) (j - i)).length) = some d ∧ d = fewN (cards hs) (i : Int) (j : Int) by
        obtain ⟨d, hd, hl⟩ := bestB_least (few_ex hz hij)
        exact ⟨d, hd, Least.unique (by rw [planOf_length]; omega) hl (few_least hz hij)⟩)
      have HCF := Lib.hid (fun w => fullPlan_any (i : Int) (j : Int) w (by omega) (by omega) (by omega))
      have HSB := Lib.hid (fun w x => sortedBy_any D c hs i j w x h1 hij hjw hl)
      rw [e1] at HCF HC
      obtain ⟨al, hal⟩ : ∃ al, al = planOf (j : Int) (j - i) := ⟨_, rfl⟩
      have HALE := Lib.hid hal
      rw [← hal] at HAL HPL HCF HC HBB HBT
      clear hz h1 h2 h3 e1 hal
      go_enter Tryz.func9, Tryz.ntmps9
      go_wp2_with fail
      refine (sortCode_any _ _ hs _ _ _ ra hl).mono ?_; rintro e w1 ⟨rfl, hb1⟩
      have k2 : w1.cell? ⟨w.heap.size, 0, none⟩ = some (.int .i64 (i : Int)) := cell_later hb1 (cell_new rfl rfl)
      have k3 : w1.cell? ⟨w.heap.size, 1, none⟩ = some (.int .i64 (j : Int)) := cell_later hb1 (cell_new rfl rfl)
      have e0 : codeK (cards hs) (i : Int) (j : Int) = 0 := HZ.out
      have T1 := bs T0 hb1
      have ra1 := ra.up hb1
      have i4 : decide ((4 : Int) < (j : Int) - (i : Int)) = false := decide_eq_false (by omega)
      clear hb1 ra ha
      go_wp2_with fail
      go_region_held3 (fun w' => w'.cell? ⟨w.heap.size, 0, none⟩ = some (.int .i64 (i : Int)) ∧ w'.cell? ⟨w.heap.size, 1, none⟩ = some (.int .i64 (j : Int))) (first | exact ⟨k2, k3⟩ | go_keep)
        (first
          | (go_at_call 29; refine (HCF.out _).mono ?_; rintro e w2 ⟨F, cf, rfl, hoF, hb2⟩; have hb2 : Below w1.heap.size w1 w2 := ⟨hb2.os, hb2.tape, hb2.output, hb2.size, hb2.block⟩; replace k2 := cell_later hb2 k2; replace k3 := cell_later hb2 k3; have ra2 := ra1.up hb2)
          | (go_at_call 30; refine (HSB.out _ ?_).mono ?_; (first | exact ra2 | exact ra2.drew | exact ra2.drewN _); rintro e w3 ⟨E, ce, gs, rfl, hgs, hoE, hb3⟩; have hb3 : Below w2.heap.size w2 w3 := ⟨hb3.os, hb3.tape, hb3.output, hb3.size, hb3.block⟩; have HGS := Lib.hid hgs; replace k2 := cell_later hb3 k2; replace k3 := cell_later hb3 k3; clear hgs))
      have HGL := Lib.hid (sortedL_bound H1.out HGS.out)
      have HOE := Lib.hid hoE
      have HOF := Lib.hid ((Ob.of hoF).bs hb3)
      have HB3 := Lib.hid (bs (bs T1 hb2) hb3)
      have HRA := Lib.hid (ra2.up hb3)
      obtain ⟨N, hN⟩ : ∃ N : Nat, N = 2 ^ al.length := ⟨_, rfl⟩
      have hal8 : al.length ≤ 8 := by have := HPL.out; omega
      have hN256 : N ≤ 256 := by rw [hN]; exact Nat.le_trans (Nat.pow_le_pow_right (by omega) hal8) (by decide)
      have HN := Lib.hid hN
      have sN : wrap64 (2 ^ al.length) = (N : Int) := by
        rw [hN]
        have e : ((2 ^ al.length : Nat) : Int) = (2 : Int) ^ al.length := by simp
        unfold wrap64
        rw [← e]
        omega
      clear hoE hoF hb2 hb3 ra2 ra1 T1 T0 k2 k3 hN
      go_wp2
      rw [sN]
      clear sN
      go_loopw [9, 10, 42] (fun best found q wr => FiR (cards hs) (sortedL (cards hs) (i : Int) (j : Int)) al w3 wr best found q) (fun _ _ q _ => N - (intOf q).toNat)
      case atStart => exact ⟨0, _, 0, 0, Nat.zero_le _, rfl, rfl, rfl, rfl, own_lit w3 #[] 0 rfl (Nat.le_refl _) (by omega) rfl, ba (b0 _) _⟩
      case round =>
        obtain ⟨wo, rfl⟩ : ∃ wo : World, wo = wr := ⟨_, rfl⟩
        obtain ⟨k, G, n, cg, hk, rfl, rfl, rfl, hn, hown, hbw⟩ := hrel
        rw [← HN.out] at hk
        by_cases hlt : k < N
        · have hk256 : k < 256 := by omega
          have HPOP := Lib.hid (pop_bits ⟨al.length, by omega⟩ ⟨k, hk256⟩ (by simp only; rw [← HN.out]; exact hlt))
          cases hst : bstC (cards hs) (sortedL (cards hs) (i : Int) (j : Int)) al k with
          | none =>
            rw [hst] at hn hown
            have HST := Lib.hid hst
            clear hst
            simp only [Option.getD_none, List.length_nil] at hn hown
            subst hn
            simp only [Option.isSome_none]
            go_wp2
            go_loopw [12, 13, 58] (fun own list q wr => FjR al k wo wr own list q) (fun _ _ q _ => al.length - (intOf q).toNat)
            case atStart =>
              refine ⟨0, 0, _, 0, _, 0, Nat.zero_le _, rfl, rfl, rfl, rfl, ?_, ?_, ba (ba (b0 _) _) _⟩
              · exact (own_lit wo #[] 0 rfl (Nat.le_refl _) (by omega) rfl).alloc _
              · exact own_lit _ #[] 0 (by simp) (by simp) (by omega) rfl
            case round =>
              obtain ⟨wi, rfl⟩ : ∃ wi : World, wi = wr := ⟨_, rfl⟩
              obtain ⟨i', m, O, co, P, cp, hi', rfl, hm, rfl, rfl, ho1, ho2, hbi⟩ := hrel
              by_cases hli : i' < al.length
              · have HFA := HOF.out.rd
                obtain ⟨bF, oF, rfl, hbF, hcF⟩ := HFA.at_ hli
                have d1 := cell_later hbi (cell_later hbw (hcF _ _ (prs_fst al i' hli)))
                have d2 := cell_later hbi (cell_later hbw (hcF _ _ (prs_snd al i' hli)))
                rw [← Nat.add_assoc] at d2
                have i1 : (i' : Int) < (al.length : Int) := by omega
                clear hcF
                have HM := Lib.hid hm
                have hm8 : m ≤ 8 := by rw [hm]; have := bitsOf_len i' k; omega
                clear hm
                have HB := Lib.hid (bit_at ⟨k, hk256⟩ ⟨i', by omega⟩)
                simp only at HB
                by_cases hbit : k / 2 ^ i' % 2 = 1
                · have HBS := Lib.hid (show bitsOf (i' + 1) k = bitsOf i' k ++ [i'] by rw [bitsOf_succ, if_pos hbit])
                  have i2 : (bits BinOp.and IntKind.i64 ((k : Int) / 2 ^ i') 1 == 1) = true := by rw [HB.out, hbit]; rfl
                  have ho1a := ho1.alloc (.cells #[.int .i64 al[i'].1, .int .i64 al[i'].2] 46)
                  have ho2a := ho2.alloc (.cells #[.int .i64 al[i'].1, .int .i64 al[i'].2] 46)
                  have HLT := Lib.hid (fun r hr => (ho1.lt r hr).2)
                  have hbx := ba hbi (.cells #[.int .i64 al[i'].1, .int .i64 al[i'].2] 46)
                  have hzx := hbx.size
                  clear hbit
                  go_wp2_with (first
                    | (at_builtin; refine wpList_ap rfl (.tmp 68) (.tmp 70) 66 rfl wo.heap.size 3 j0 _ 1 8 Tryz.underlying66 hj hj0 hj1 hj2 rfl (by omega) O m co (ints (zs (bitsOf i' k))) rfl _ ho1a 1 #[.int .i64 (i' : Int)] (wi.heap.size + 1) (by simp) rfl rfl (by intro v hv; simp at hv; subst hv; rfl) (by omega) (by omega) (by omega) (by omega) ?_; intro g1 c1 w6 ho6 hb6 hg6 _ _; have e1 : w6.cell? ⟨wi.heap.size, 0, none⟩ = some (.int .i64 al[i'].1) := grown_cell hg6 (cell_new rfl rfl) (fun r hr => by have := HLT.out r hr; omega); have e2 : w6.cell? ⟨wi.heap.size, 1, none⟩ = some (.int .i64 al[i'].2) := grown_cell hg6 (cell_new rfl rfl) (fun r hr => by have := HLT.out r hr; omega); have ho2b := ho2a.kept hg6 (own_ne ho2a ho1a (by decide)); have hbx6 := hbx.trans hb6; have hzx6 := hbx6.size)
                    | (at_builtin; refine wpList_ap rfl (.tmp 72) (.tmp 74) 26 rfl wo.heap.size 46 i0 _ 2 16 Tryz.underlying26 hi hi0 hi1 hi2 rfl (by omega) P m cp (prs (pickP al (bitsOf i' k))) rfl w6 ho2b 1 #[.int .i64 al[i'].1, .int .i64 al[i'].2] w6.heap.size rfl rfl rfl (prs_one [al[i']]) (by omega) (by omega) (by omega) hzx6 ?_; intro g2 c2 w7 ho7 hb7 hg7 _ _; have ho6b := ho6.kept hg7 (own_ne ho6 ho2b (by decide))))
                  have HO1 := Lib.hid (show w7.ownsRow wo.heap.size 3 1 (.slice (some ⟨g1, 0, none⟩) (m + 1) c1) (m + 1) (ints (zs (bitsOf (i' + 1) k))) by rw [HBS.out, zs_snoc, ints_snoc]; exact ho6b)
                  have HO2 := Lib.hid (show w7.ownsRow wo.heap.size 46 2 (.slice (some ⟨g2, 0, none⟩) (m + 1) c2) (m + 1) (prs (pickP al (bitsOf (i' + 1) k))) by rw [HBS.out, pickP_snoc al _ hli, prs_append]; exact ho7)
                  have HBW := Lib.hid (hbx6.trans hb7)
                  have HLN := Lib.hid (show m + 1 = (bitsOf (i' + 1) k).length by rw [HBS.out, List.length_append, HM.out]; rfl)
                  clear ho6 ho6b ho7 ho2b ho1a ho2a hb6 hb7 hg6 hg7 hbx hbx6 e1 e2
                  go_roundw
                  case rel =>
                    have P : FjR al k wo w7 (.slice (some ⟨g1, 0, none⟩) (m + 1) c1) (.slice (some ⟨g2, 0, none⟩) (m + 1) c2) (.int .i64 ((i' : Int) + 1)) := ⟨i' + 1, m + 1, _, _, _, _, by omega, by go_num, HLN.out, rfl, rfl, HO1.out, HO2.out, HBW.out⟩
                    first | exact P | exact ⟨_, P, rfl⟩ | exact ⟨_, _, P, rfl, rfl⟩ | exact ⟨_, _, _, P, rfl, rfl, rfl⟩ | exact ⟨_, _, _, _, P, rfl, rfl, rfl, rfl⟩ | exact ⟨_, _, _, _, _, P, rfl, rfl, rfl, rfl, rfl⟩ | exact ⟨_, _, _, _, _, _, P, rfl, rfl, rfl, rfl, rfl, rfl⟩ | exact ⟨_, _, _, _, _, _, _, P, rfl, rfl, rfl, rfl, rfl, rfl, rfl⟩ | exact ⟨_, _, _, _, _, _, _, _, P, rfl, rfl, rfl, rfl, rfl, rfl, rfl, rfl⟩
                  case measure => (simp [intOf]; try omega)
                · have HBS := Lib.hid (show bitsOf (i' + 1) k = bitsOf i' k by rw [bitsOf_succ, if_neg hbit, List.append_nil])
                  have i2 : (bits BinOp.and IntKind.i64 ((k : Int) / 2 ^ i') 1 == 1) = false := by rw [HB.out]; simpa using hbit
                  have HO1 := Lib.hid (ho1.alloc (.cells #[.int .i64 al[i'].1, .int .i64 al[i'].2] 46))
                  have HO2 := Lib.hid (ho2.alloc (.cells #[.int .i64 al[i'].1, .int .i64 al[i'].2] 46))
                  have HBW := Lib.hid (ba hbi (.cells #[.int .i64 al[i'].1, .int .i64 al[i'].2] 46))
                  clear hbit
                  go_wp2
                  go_roundw
                  case rel =>
                    have P : FjR al k wo (wi.alloc (.cells #[.int .i64 al[i'].1, .int .i64 al[i'].2] 46)) (.slice O m co) (.slice P m cp) (.int .i64 ((i' : Int) + 1)) := ⟨i' + 1, m, _, _, _, _, by omega, by go_num, by rw [HBS.out]; exact HM.out, rfl, rfl, by rw [HBS.out]; exact HO1.out, by rw [HBS.out]; exact HO2.out, HBW.out⟩
                    first | exact P | exact ⟨_, P, rfl⟩ | exact ⟨_, _, P, rfl, rfl⟩ | exact ⟨_, _, _, P, rfl, rfl, rfl⟩ | exact ⟨_, _, _, _, P, rfl, rfl, rfl, rfl⟩ | exact ⟨_, _, _, _, _, P, rfl, rfl, rfl, rfl, rfl⟩ | exact ⟨_, _, _, _, _, _, P, rfl, rfl, rfl, rfl, rfl, rfl⟩ | exact ⟨_, _, _, _, _, _, _, P, rfl, rfl, rfl, rfl, rfl, rfl, rfl⟩ | exact ⟨_, _, _, _, _, _, _, _, P, rfl, rfl, rfl, rfl, rfl, rfl, rfl, rfl⟩
                  case measure => (simp [intOf]; try omega)
              · obtain rfl : i' = al.length := by omega
                obtain ⟨b, hb⟩ : ∃ b, b = bitsOf al.length k := ⟨_, rfl⟩
                rw [← hb] at ho1 ho2 hm
                have HB := Lib.hid hb
                have HASC := Lib.hid (show Asc al.length 0 b by rw [hb]; exact bitsOf_asc _ _)
                have hm8 : m ≤ 8 := by rw [hm, hb]; have := bitsOf_len al.length k; omega
                have HM := Lib.hid hm
                have HML := Lib.hid (show (pickP al b).length = m by rw [pickP_length, hm])
                have HPO := Lib.hid (show passesOk (deckW (cards hs) : Int) (pickP al b) = true from passes_mk (pick_ok HAL.out HASC.out) (by rw [HML.out]; omega))
                have HRP := Lib.hid (show ∀ w, RdD w w.heap.size D hs → Rd w w.heap.size 2 P m (prs (pickP al b)) → Calls Tryz.prog 34 #[.slice D hs.length c, .slice P m cp] w fun e w' => ∃ E ce gs, e = .returned (.slice E gs.length ce) ∧ cards gs = runL (cards hs) (pickP al b) ∧ ObD w' w.heap.size w'.heap.size 62 2 E ce gs ∧ Below w.heap.size w w' from fun w x y => by
                  have := runPasses_any D c hs P cp (pickP al b) w x H1.out hl (by rw [HML.out]; exact y) (by rw [HML.out]; omega) HPO.out
                  rwa [HML.out] at this)
                have TW := bs hbw hbi
                have hzo := hbw.size
                clear hb hm
                go_wp2_with fail
                refine (HRP.out _ (HRA.out.up TW) (Rd.own ho2)).mono ?_
                rintro e w5 ⟨E5, c5, g5, rfl, hc5, ho5, hb5⟩
                have HGD := Lib.hid (show decide (cards g5 = cards gs) = gdP (cards hs) (sortedL (cards hs) (i : Int) (j : Int)) al [] b by unfold gdP; rw [hc5, HGS.out]; rfl)
                have HB5 := Lib.hid (runL_bound H1.out HPO.out hc5)
                have HSD := Lib.hid (SameDeck_any E5 E c5 ce g5 gs w5 ho5.rd (HOE.out.rd.up (bs TW hb5)) (by have := HB5.out; omega) (by have := HGL.out; omega))
                rw [HGD.out] at HSD
                have TW5 := bs TW hb5
                have ho1b := own_bs ho1 hb5
                clear hc5 ho5 ho1 ho2
                rcases Bool.eq_false_or_eq_true (gdP (cards hs) (sortedL (cards hs) (i : Int) (j : Int)) al [] b) with hg | hg
                · have HNX := Lib.hid (show bstC (cards hs) (sortedL (cards hs) (i : Int) (j : Int)) al (k + 1) = some b by rw [HB.out] at hg ⊢; exact bst_none_yes HST.out hg)
                  rw [hg] at HSD
                  clear hg
                  go_wp2_with fail
                  refine HSD.out.mono ?_
                  rintro e w6 ⟨rfl, hb6⟩
                  have HO := Lib.hid (own_base (own_bs ho1b hb6) (show w3.heap.size ≤ wo.heap.size by omega))
                  have HT := Lib.hid (bs TW5 hb6)
                  clear hb6 ho1b TW5 TW hb5
                  go_wp2
                  go_roundw
                  case rel =>
                    have P : FiR (cards hs) (sortedL (cards hs) (i : Int) (j : Int)) al w3 w6 (.slice O m co) (.bool true) (.int .i64 ((k : Int) + 1)) := ⟨k + 1, O, m, co, by have := HN.out; omega, by go_num, by rw [HNX.out]; rfl, rfl, by rw [HNX.out]; exact HM.out, by rw [HNX.out]; exact HO.out, HT.out⟩
                    first | exact P | exact ⟨_, P, rfl⟩ | exact ⟨_, _, P, rfl, rfl⟩ | exact ⟨_, _, _, P, rfl, rfl, rfl⟩ | exact ⟨_, _, _, _, P, rfl, rfl, rfl, rfl⟩ | exact ⟨_, _, _, _, _, P, rfl, rfl, rfl, rfl, rfl⟩ | exact ⟨_, _, _, _, _, _, P, rfl, rfl, rfl, rfl, rfl, rfl⟩ | exact ⟨_, _, _, _, _, _, _, P, rfl, rfl, rfl, rfl, rfl, rfl, rfl⟩ | exact ⟨_, _, _, _, _, _, _, _, P, rfl, rfl, rfl, rfl, rfl, rfl, rfl, rfl⟩
                  case measure => (simp [intOf]; try omega)
                · have HNX := Lib.hid (show bstC (cards hs) (sortedL (cards hs) (i : Int) (j : Int)) al (k + 1) = none by rw [HB.out] at hg; exact bst_none_no HST.out hg)
                  rw [hg] at HSD
                  clear hg
                  go_wp2_with fail
                  refine HSD.out.mono ?_
                  rintro e w6 ⟨rfl, hb6⟩
                  have HT := Lib.hid (bs TW5 hb6)
                  have HO := Lib.hid (own_bs hown (show Below wo.heap.size wo w6 from bs (bs hbi hb5) hb6))
                  clear hb6 ho1b TW5 TW hb5
                  go_wp2
                  go_roundw
                  case rel =>
                    have P : FiR (cards hs) (sortedL (cards hs) (i : Int) (j : Int)) al w3 w6 (.slice G 0 cg) (.bool false) (.int .i64 ((k : Int) + 1)) := ⟨k + 1, G, 0, cg, by have := HN.out; omega, by go_num, by rw [HNX.out]; rfl, rfl, by rw [HNX.out]; rfl, by rw [HNX.out]; exact HO.out, HT.out⟩
                    first | exact P | exact ⟨_, P, rfl⟩ | exact ⟨_, _, P, rfl, rfl⟩ | exact ⟨_, _, _, P, rfl, rfl, rfl⟩ | exact ⟨_, _, _, _, P, rfl, rfl, rfl, rfl⟩ | exact ⟨_, _, _, _, _, P, rfl, rfl, rfl, rfl, rfl⟩ | exact ⟨_, _, _, _, _, _, P, rfl, rfl, rfl, rfl, rfl, rfl⟩ | exact ⟨_, _, _, _, _, _, _, P, rfl, rfl, rfl, rfl, rfl, rfl, rfl⟩ | exact ⟨_, _, _, _, _, _, _, _, P, rfl, rfl, rfl, rfl, rfl, rfl, rfl, rfl⟩
                  case measure => (simp [intOf]; try omega)
          | some bq =>
            rw [hst] at hn hown
            have HST := Lib.hid hst
            clear hst
            simp only [Option.getD_some] at hn hown
            simp only [Option.isSome_some]
            have HN0 := Lib.hid hn
            have hn8 : n ≤ 8 := by
              have := bst_asc HST.out
              obtain ⟨s, _, hs⟩ := bitsOf_hit _ _ this
              rw [hn, ← hs]
              have := bitsOf_len al.length s
              omega
            clear hn
            have HPP := Lib.hid (ones_any k (by omega) wo)
            obtain ⟨pk, hpk⟩ : ∃ pk, pk = pop k := ⟨_, rfl⟩
            have HPK := Lib.hid (show pk = (bitsOf al.length k).length by rw [hpk]; exact HPOP.out)
            rw [← hpk] at HPP
            clear hpk
            go_wp2_with fail
            refine HPP.out.mono ?_
            rintro e w4 ⟨rfl, rfl⟩
            by_cases hlong : n < pk
            · have HNX := Lib.hid (show bstC (cards hs) (sortedL (cards hs) (i : Int) (j : Int)) al (k + 1) = some bq from bst_keep HST.out (.inl (by rw [← HPK.out, ← HN0.out]; exact hlong)))
              have HO := Lib.hid hown
              have HT := Lib.hid hbw
              clear hown hbw
              go_wp2
              go_roundw
              case rel =>
                have P : FiR (cards hs) (sortedL (cards hs) (i : Int) (j : Int)) al w3 wo (.slice G n cg) (.bool true) (.int .i64 ((k : Int) + 1)) := ⟨k + 1, G, n, cg, by have := HN.out; omega, by go_num, by rw [HNX.out]; rfl, rfl, by rw [HNX.out]; exact HN0.out, by rw [HNX.out]; exact HO.out, HT.out⟩
                first | exact P | exact ⟨_, P, rfl⟩ | exact ⟨_, _, P, rfl, rfl⟩ | exact ⟨_, _, _, P, rfl, rfl, rfl⟩ | exact ⟨_, _, _, _, P, rfl, rfl, rfl, rfl⟩ | exact ⟨_, _, _, _, _, P, rfl, rfl, rfl, rfl, rfl⟩ | exact ⟨_, _, _, _, _, _, P, rfl, rfl, rfl, rfl, rfl, rfl⟩ | exact ⟨_, _, _, _, _, _, _, P, rfl, rfl, rfl, rfl, rfl, rfl, rfl⟩ | exact ⟨_, _, _, _, _, _, _, _, P, rfl, rfl, rfl, rfl, rfl, rfl, rfl, rfl⟩
              case measure => (simp [intOf]; try omega)
            · have HLO := Lib.hid hlong
              go_wp2
              go_loopw [12, 13, 58] (fun own list q wr => FjR al k wo wr own list q) (fun _ _ q _ => al.length - (intOf q).toNat)
              case atStart =>
                refine ⟨0, 0, _, 0, _, 0, Nat.zero_le _, rfl, rfl, rfl, rfl, ?_, ?_, ba (ba (b0 _) _) _⟩
                · exact (own_lit wo #[] 0 rfl (Nat.le_refl _) (by omega) rfl).alloc _
                · exact own_lit _ #[] 0 (by simp) (by simp) (by omega) rfl
              case round =>
                obtain ⟨wi, rfl⟩ : ∃ wi : World, wi = wr := ⟨_, rfl⟩
                obtain ⟨i', m, O, co, P, cp, hi', rfl, hm, rfl, rfl, ho1, ho2, hbi⟩ := hrel
                by_cases hli : i' < al.length
                · have HFA := HOF.out.rd
                  obtain ⟨bF, oF, rfl, hbF, hcF⟩ := HFA.at_ hli
                  have d1 := cell_later hbi (cell_later hbw (hcF _ _ (prs_fst al i' hli)))
                  have d2 := cell_later hbi (cell_later hbw (hcF _ _ (prs_snd al i' hli)))
                  rw [← Nat.add_assoc] at d2
                  have i1 : (i' : Int) < (al.length : Int) := by omega
                  clear hcF
                  have HM := Lib.hid hm
                  have hm8 : m ≤ 8 := by rw [hm]; have := bitsOf_len i' k; omega
                  clear hm
                  have HB := Lib.hid (bit_at ⟨k, hk256⟩ ⟨i', by omega⟩)
                  simp only at HB
                  by_cases hbit : k / 2 ^ i' % 2 = 1
                  · have HBS := Lib.hid (show bitsOf (i' + 1) k = bitsOf i' k ++ [i'] by rw [bitsOf_succ, if_pos hbit])
                    have i2 : (bits BinOp.and IntKind.i64 ((k : Int) / 2 ^ i') 1 == 1) = true := by rw [HB.out, hbit]; rfl
                    have ho1a := ho1.alloc (.cells #[.int .i64 al[i'].1, .int .i64 al[i'].2] 46)
                    have ho2a := ho2.alloc (.cells #[.int .i64 al[i'].1, .int .i64 al[i'].2] 46)
                    have HLT := Lib.hid (fun r hr => (ho1.lt r hr).2)
                    have hbx := ba hbi (.cells #[.int .i64 al[i'].1, .int .i64 al[i'].2] 46)
                    have hzx := hbx.size
                    clear hbit
                    go_wp2_with (first
                      | (at_builtin; refine wpList_ap rfl (.tmp 68) (.tmp 70) 66 rfl wo.heap.size 3 j0 _ 1 8 Tryz.underlying66 hj hj0 hj1 hj2 rfl (by omega) O m co (ints (zs (bitsOf i' k))) rfl _ ho1a 1 #[.int .i64 (i' : Int)] (wi.heap.size + 1) (by simp) rfl rfl (by intro v hv; simp at hv; subst hv; rfl) (by omega) (by omega) (by omega) (by omega) ?_; intro g1 c1 w6 ho6 hb6 hg6 _ _; have e1 : w6.cell? ⟨wi.heap.size, 0, none⟩ = some (.int .i64 al[i'].1) := grown_cell hg6 (cell_new rfl rfl) (fun r hr => by have := HLT.out r hr; omega); have e2 : w6.cell? ⟨wi.heap.size, 1, none⟩ = some (.int .i64 al[i'].2) := grown_cell hg6 (cell_new rfl rfl) (fun r hr => by have := HLT.out r hr; omega); have ho2b := ho2a.kept hg6 (own_ne ho2a ho1a (by decide)); have hbx6 := hbx.trans hb6; have hzx6 := hbx6.size)
                      | (at_builtin; refine wpList_ap rfl (.tmp 72) (.tmp 74) 26 rfl wo.heap.size 46 i0 _ 2 16 Tryz.underlying26 hi hi0 hi1 hi2 rfl (by omega) P m cp (prs (pickP al (bitsOf i' k))) rfl w6 ho2b 1 #[.int .i64 al[i'].1, .int .i64 al[i'].2] w6.heap.size rfl rfl rfl (prs_one [al[i']]) (by omega) (by omega) (by omega) hzx6 ?_; intro g2 c2 w7 ho7 hb7 hg7 _ _; have ho6b := ho6.kept hg7 (own_ne ho6 ho2b (by decide))))
                    have HO1 := Lib.hid (show w7.ownsRow wo.heap.size 3 1 (.slice (some ⟨g1, 0, none⟩) (m + 1) c1) (m + 1) (ints (zs (bitsOf (i' + 1) k))) by rw [HBS.out, zs_snoc, ints_snoc]; exact ho6b)
                    have HO2 := Lib.hid (show w7.ownsRow wo.heap.size 46 2 (.slice (some ⟨g2, 0, none⟩) (m + 1) c2) (m + 1) (prs (pickP al (bitsOf (i' + 1) k))) by rw [HBS.out, pickP_snoc al _ hli, prs_append]; exact ho7)
                    have HBW := Lib.hid (hbx6.trans hb7)
                    have HLN := Lib.hid (show m + 1 = (bitsOf (i' + 1) k).length by rw [HBS.out, List.length_append, HM.out]; rfl)
                    clear ho6 ho6b ho7 ho2b ho1a ho2a hb6 hb7 hg6 hg7 hbx hbx6 e1 e2
                    go_roundw
                    case rel =>
                      have P : FjR al k wo w7 (.slice (some ⟨g1, 0, none⟩) (m + 1) c1) (.slice (some ⟨g2, 0, none⟩) (m + 1) c2) (.int .i64 ((i' : Int) + 1)) := ⟨i' + 1, m + 1, _, _, _, _, by omega, by go_num, HLN.out, rfl, rfl, HO1.out, HO2.out, HBW.out⟩
                      first | exact P | exact ⟨_, P, rfl⟩ | exact ⟨_, _, P, rfl, rfl⟩ | exact ⟨_, _, _, P, rfl, rfl, rfl⟩ | exact ⟨_, _, _, _, P, rfl, rfl, rfl, rfl⟩ | exact ⟨_, _, _, _, _, P, rfl, rfl, rfl, rfl, rfl⟩ | exact ⟨_, _, _, _, _, _, P, rfl, rfl, rfl, rfl, rfl, rfl⟩ | exact ⟨_, _, _, _, _, _, _, P, rfl, rfl, rfl, rfl, rfl, rfl, rfl⟩ | exact ⟨_, _, _, _, _, _, _, _, P, rfl, rfl, rfl, rfl, rfl, rfl, rfl, rfl⟩
                    case measure => (simp [intOf]; try omega)
                  · have HBS := Lib.hid (show bitsOf (i' + 1) k = bitsOf i' k by rw [bitsOf_succ, if_neg hbit, List.append_nil])
                    have i2 : (bits BinOp.and IntKind.i64 ((k : Int) / 2 ^ i') 1 == 1) = false := by rw [HB.out]; simpa using hbit
                    have HO1 := Lib.hid (ho1.alloc (.cells #[.int .i64 al[i'].1, .int .i64 al[i'].2] 46))
                    have HO2 := Lib.hid (ho2.alloc (.cells #[.int .i64 al[i'].1, .int .i64 al[i'].2] 46))
                    have HBW := Lib.hid (ba hbi (.cells #[.int .i64 al[i'].1, .int .i64 al[i'].2] 46))
                    clear hbit
                    go_wp2
                    go_roundw
                    case rel =>
                      have P : FjR al k wo (wi.alloc (.cells #[.int .i64 al[i'].1, .int .i64 al[i'].2] 46)) (.slice O m co) (.slice P m cp) (.int .i64 ((i' : Int) + 1)) := ⟨i' + 1, m, _, _, _, _, by omega, by go_num, by rw [HBS.out]; exact HM.out, rfl, rfl, by rw [HBS.out]; exact HO1.out, by rw [HBS.out]; exact HO2.out, HBW.out⟩
                      first | exact P | exact ⟨_, P, rfl⟩ | exact ⟨_, _, P, rfl, rfl⟩ | exact ⟨_, _, _, P, rfl, rfl, rfl⟩ | exact ⟨_, _, _, _, P, rfl, rfl, rfl, rfl⟩ | exact ⟨_, _, _, _, _, P, rfl, rfl, rfl, rfl, rfl⟩ | exact ⟨_, _, _, _, _, _, P, rfl, rfl, rfl, rfl, rfl, rfl⟩ | exact ⟨_, _, _, _, _, _, _, P, rfl, rfl, rfl, rfl, rfl, rfl, rfl⟩ | exact ⟨_, _, _, _, _, _, _, _, P, rfl, rfl, rfl, rfl, rfl, rfl, rfl, rfl⟩
                    case measure => (simp [intOf]; try omega)
                · obtain rfl : i' = al.length := by omega
                  obtain ⟨b, hb⟩ : ∃ b, b = bitsOf al.length k := ⟨_, rfl⟩
                  rw [← hb] at ho1 ho2 hm
                  have HB := Lib.hid hb
                  have HASC := Lib.hid (show Asc al.length 0 b by rw [hb]; exact bitsOf_asc _ _)
                  have hm8 : m ≤ 8 := by rw [hm, hb]; have := bitsOf_len al.length k; omega
                  have HM := Lib.hid hm
                  have HML := Lib.hid (show (pickP al b).length = m by rw [pickP_length, hm])
                  have HPO := Lib.hid (show passesOk (deckW (cards hs) : Int) (pickP al b) = true from passes_mk (pick_ok HAL.out HASC.out) (by rw [HML.out]; omega))
                  have HRP := Lib.hid (show ∀ w, RdD w w.heap.size D hs → Rd w w.heap.size 2 P m (prs (pickP al b)) → Calls Tryz.prog 34 #[.slice D hs.length c, .slice P m cp] w fun e w' => ∃ E ce gs, e = .returned (.slice E gs.length ce) ∧ cards gs = runL (cards hs) (pickP al b) ∧ ObD w' w.heap.size w'.heap.size 62 2 E ce gs ∧ Below w.heap.size w w' from fun w x y => by
                    have := runPasses_any D c hs P cp (pickP al b) w x H1.out hl (by rw [HML.out]; exact y) (by rw [HML.out]; omega) HPO.out
                    rwa [HML.out] at this)
                  have TW := bs hbw hbi
                  have hzo := hbw.size
                  clear hb hm
                  by_cases hmn : m = n
                  · have HCM := Lib.hid (cmp_nk (b := b) (c := bq) (by omega) HASC.out (bst_asc HST.out) (by rw [← HM.out, ← HN0.out]; exact hmn))
                    have q1 : ((m : Int) == (n : Int)) = true := beq_t (by omega)
                    have HZB := Lib.hid (zs_length b)
                    have HZ0 := Lib.hid (zs_length bq)
                    have HSC := Lib.hid (slCompare_any m n O G co cg (zs b) (zs bq) wi (by rw [HZB.out, HM.out]) (by rw [HZ0.out, HN0.out]) hmn (Rd.own ho1) (Rd.own (own_bs hown hbi)) (by omega))
                    obtain ⟨z, hz⟩ : ∃ z, z = cmpN (zs b) (zs bq) := ⟨_, rfl⟩
                    rw [← hz] at HCM HSC
                    have HMN := Lib.hid hmn
                    clear hz hmn
                    by_cases hzp : 0 < z
                    · have HNX := Lib.hid (show bstC (cards hs) (sortedL (cards hs) (i : Int) (j : Int)) al (k + 1) = some bq from bst_keep HST.out (.inr (.inl ⟨by rw [← HB.out, ← HM.out, ← HN0.out, HMN.out], by rw [← HB.out]; exact HCM.out.1 hzp⟩)))
                      go_wp2_with fail
                      refine HSC.out.mono ?_
                      rintro e w5 ⟨rfl, rfl⟩
                      have HO := Lib.hid (own_bs hown hbi)
                      have HT := Lib.hid TW
                      clear TW ho1 ho2
                      go_wp2
                      go_roundw
                      case rel =>
                        have P : FiR (cards hs) (sortedL (cards hs) (i : Int) (j : Int)) al w3 wi (.slice G n cg) (.bool true) (.int .i64 ((k : Int) + 1)) := ⟨k + 1, G, n, cg, by have := HN.out; omega, by go_num, by rw [HNX.out]; rfl, rfl, by rw [HNX.out]; exact HN0.out, by rw [HNX.out]; exact HO.out, HT.out⟩
                        first | exact P | exact ⟨_, P, rfl⟩ | exact ⟨_, _, P, rfl, rfl⟩ | exact ⟨_, _, _, P, rfl, rfl, rfl⟩ | exact ⟨_, _, _, _, P, rfl, rfl, rfl, rfl⟩ | exact ⟨_, _, _, _, _, P, rfl, rfl, rfl, rfl, rfl⟩ | exact ⟨_, _, _, _, _, _, P, rfl, rfl, rfl, rfl, rfl, rfl⟩ | exact ⟨_, _, _, _, _, _, _, P, rfl, rfl, rfl, rfl, rfl, rfl, rfl⟩ | exact ⟨_, _, _, _, _, _, _, _, P, rfl, rfl, rfl, rfl, rfl, rfl, rfl, rfl⟩
                      case measure => (simp [intOf]; try omega)
                    · have HNO := Lib.hid (show ¬ (b.length = bq.length ∧ nk bq < nk b) from fun h => hzp (HCM.out.2 h.2))
                      go_wp2_with fail
                      refine HSC.out.mono ?_
                      rintro e w5' ⟨rfl, rfl⟩
                      go_wp2_with fail
                      refine (HRP.out _ (HRA.out.up TW) (Rd.own ho2)).mono ?_
                      rintro e w5 ⟨E5, c5, g5, rfl, hc5, ho5, hb5⟩
                      have HGD := Lib.hid (show decide (cards g5 = cards gs) = gdP (cards hs) (sortedL (cards hs) (i : Int) (j : Int)) al [] b by unfold gdP; rw [hc5, HGS.out]; rfl)
                      have HB5 := Lib.hid (runL_bound H1.out HPO.out hc5)
                      have HSD := Lib.hid (SameDeck_any E5 E c5 ce g5 gs w5 ho5.rd (HOE.out.rd.up (bs TW hb5)) (by have := HB5.out; omega) (by have := HGL.out; omega))
                      rw [HGD.out] at HSD
                      have TW5 := bs TW hb5
                      have ho1b := own_bs ho1 hb5
                      clear hc5 ho5 ho1 ho2
                      rcases Bool.eq_false_or_eq_true (gdP (cards hs) (sortedL (cards hs) (i : Int) (j : Int)) al [] b) with hg | hg
                      · have HNX := Lib.hid (show bstC (cards hs) (sortedL (cards hs) (i : Int) (j : Int)) al (k + 1) = some b by rw [HB.out] at hg ⊢; exact bst_take HST.out (by rw [← HN0.out, ← HPK.out]; exact HLO.out) (by rw [← HB.out]; exact HNO.out) hg)
                        rw [hg] at HSD
                        clear hg
                        go_wp2_with fail
                        refine HSD.out.mono ?_
                        rintro e w6 ⟨rfl, hb6⟩
                        have HO := Lib.hid (own_base (own_bs ho1b hb6) (show w3.heap.size ≤ wo.heap.size by omega))
                        have HT := Lib.hid (bs TW5 hb6)
                        clear hb6 ho1b TW5 TW hb5
                        go_wp2
                        go_roundw
                        case rel =>
                          have P : FiR (cards hs) (sortedL (cards hs) (i : Int) (j : Int)) al w3 w6 (.slice O m co) (.bool true) (.int .i64 ((k : Int) + 1)) := ⟨k + 1, O, m, co, by have := HN.out; omega, by go_num, by rw [HNX.out]; rfl, rfl, by rw [HNX.out]; exact HM.out, by rw [HNX.out]; exact HO.out, HT.out⟩
                          first | exact P | exact ⟨_, P, rfl⟩ | exact ⟨_, _, P, rfl, rfl⟩ | exact ⟨_, _, _, P, rfl, rfl, rfl⟩ | exact ⟨_, _, _, _, P, rfl, rfl, rfl, rfl⟩ | exact ⟨_, _, _, _, _, P, rfl, rfl, rfl, rfl, rfl⟩ | exact ⟨_, _, _, _, _, _, P, rfl, rfl, rfl, rfl, rfl, rfl⟩ | exact ⟨_, _, _, _, _, _, _, P, rfl, rfl, rfl, rfl, rfl, rfl, rfl⟩ | exact ⟨_, _, _, _, _, _, _, _, P, rfl, rfl, rfl, rfl, rfl, rfl, rfl, rfl⟩
                        case measure => (simp [intOf]; try omega)
                      · have HNX := Lib.hid (show bstC (cards hs) (sortedL (cards hs) (i : Int) (j : Int)) al (k + 1) = some bq by rw [HB.out] at hg; exact bst_keep HST.out (.inr (.inr hg)))
                        rw [hg] at HSD
                        clear hg
                        go_wp2_with fail
                        refine HSD.out.mono ?_
                        rintro e w6 ⟨rfl, hb6⟩
                        have HT := Lib.hid (bs TW5 hb6)
                        have HO := Lib.hid (own_bs hown (show Below wo.heap.size wo w6 from bs (bs hbi hb5) hb6))
                        clear hb6 ho1b TW5 TW hb5
                        go_wp2
                        go_roundw
                        case rel =>
                          have P : FiR (cards hs) (sortedL (cards hs) (i : Int) (j : Int)) al w3 w6 (.slice G n cg) (.bool true) (.int .i64 ((k : Int) + 1)) := ⟨k + 1, G, n, cg, by have := HN.out; omega, by go_num, by rw [HNX.out]; rfl, rfl, by rw [HNX.out]; exact HN0.out, by rw [HNX.out]; exact HO.out, HT.out⟩
                          first | exact P | exact ⟨_, P, rfl⟩ | exact ⟨_, _, P, rfl, rfl⟩ | exact ⟨_, _, _, P, rfl, rfl, rfl⟩ | exact ⟨_, _, _, _, P, rfl, rfl, rfl, rfl⟩ | exact ⟨_, _, _, _, _, P, rfl, rfl, rfl, rfl, rfl⟩ | exact ⟨_, _, _, _, _, _, P, rfl, rfl, rfl, rfl, rfl, rfl⟩ | exact ⟨_, _, _, _, _, _, _, P, rfl, rfl, rfl, rfl, rfl, rfl, rfl⟩ | exact ⟨_, _, _, _, _, _, _, _, P, rfl, rfl, rfl, rfl, rfl, rfl, rfl, rfl⟩
                        case measure => (simp [intOf]; try omega)
                  · have q1 : ((m : Int) == (n : Int)) = false := beq_f (by omega)
                    have HNO := Lib.hid (show ¬ (b.length = bq.length ∧ nk bq < nk b) from fun h => hmn (by rw [HM.out, HN0.out, h.1]))
                    go_wp2_with fail
                    refine (HRP.out _ (HRA.out.up TW) (Rd.own ho2)).mono ?_
                    rintro e w5 ⟨E5, c5, g5, rfl, hc5, ho5, hb5⟩
                    have HGD := Lib.hid (show decide (cards g5 = cards gs) = gdP (cards hs) (sortedL (cards hs) (i : Int) (j : Int)) al [] b by unfold gdP; rw [hc5, HGS.out]; rfl)
                    have HB5 := Lib.hid (runL_bound H1.out HPO.out hc5)
                    have HSD := Lib.hid (SameDeck_any E5 E c5 ce g5 gs w5 ho5.rd (HOE.out.rd.up (bs TW hb5)) (by have := HB5.out; omega) (by have := HGL.out; omega))
                    rw [HGD.out] at HSD
                    have TW5 := bs TW hb5
                    have ho1b := own_bs ho1 hb5
                    clear hc5 ho5 ho1 ho2
                    rcases Bool.eq_false_or_eq_true (gdP (cards hs) (sortedL (cards hs) (i : Int) (j : Int)) al [] b) with hg | hg
                    · have HNX := Lib.hid (show bstC (cards hs) (sortedL (cards hs) (i : Int) (j : Int)) al (k + 1) = some b by rw [HB.out] at hg ⊢; exact bst_take HST.out (by rw [← HN0.out, ← HPK.out]; exact HLO.out) (by rw [← HB.out]; exact HNO.out) hg)
                      rw [hg] at HSD
                      clear hg
                      go_wp2_with fail
                      refine HSD.out.mono ?_
                      rintro e w6 ⟨rfl, hb6⟩
                      have HO := Lib.hid (own_base (own_bs ho1b hb6) (show w3.heap.size ≤ wo.heap.size by omega))
                      have HT := Lib.hid (bs TW5 hb6)
                      clear hb6 ho1b TW5 TW hb5
                      go_wp2
                      go_roundw
                      case rel =>
                        have P : FiR (cards hs) (sortedL (cards hs) (i : Int) (j : Int)) al w3 w6 (.slice O m co) (.bool true) (.int .i64 ((k : Int) + 1)) := ⟨k + 1, O, m, co, by have := HN.out; omega, by go_num, by rw [HNX.out]; rfl, rfl, by rw [HNX.out]; exact HM.out, by rw [HNX.out]; exact HO.out, HT.out⟩
                        first | exact P | exact ⟨_, P, rfl⟩ | exact ⟨_, _, P, rfl, rfl⟩ | exact ⟨_, _, _, P, rfl, rfl, rfl⟩ | exact ⟨_, _, _, _, P, rfl, rfl, rfl, rfl⟩ | exact ⟨_, _, _, _, _, P, rfl, rfl, rfl, rfl, rfl⟩ | exact ⟨_, _, _, _, _, _, P, rfl, rfl, rfl, rfl, rfl, rfl⟩ | exact ⟨_, _, _, _, _, _, _, P, rfl, rfl, rfl, rfl, rfl, rfl, rfl⟩ | exact ⟨_, _, _, _, _, _, _, _, P, rfl, rfl, rfl, rfl, rfl, rfl, rfl, rfl⟩
                      case measure => (simp [intOf]; try omega)
                    · have HNX := Lib.hid (show bstC (cards hs) (sortedL (cards hs) (i : Int) (j : Int)) al (k + 1) = some bq by rw [HB.out] at hg; exact bst_keep HST.out (.inr (.inr hg)))
                      rw [hg] at HSD
                      clear hg
                      go_wp2_with fail
                      refine HSD.out.mono ?_
                      rintro e w6 ⟨rfl, hb6⟩
                      have HT := Lib.hid (bs TW5 hb6)
                      have HO := Lib.hid (own_bs hown (show Below wo.heap.size wo w6 from bs (bs hbi hb5) hb6))
                      clear hb6 ho1b TW5 TW hb5
                      go_wp2
                      go_roundw
                      case rel =>
                        have P : FiR (cards hs) (sortedL (cards hs) (i : Int) (j : Int)) al w3 w6 (.slice G n cg) (.bool true) (.int .i64 ((k : Int) + 1)) := ⟨k + 1, G, n, cg, by have := HN.out; omega, by go_num, by rw [HNX.out]; rfl, rfl, by rw [HNX.out]; exact HN0.out, by rw [HNX.out]; exact HO.out, HT.out⟩
                        first | exact P | exact ⟨_, P, rfl⟩ | exact ⟨_, _, P, rfl, rfl⟩ | exact ⟨_, _, _, P, rfl, rfl, rfl⟩ | exact ⟨_, _, _, _, P, rfl, rfl, rfl, rfl⟩ | exact ⟨_, _, _, _, _, P, rfl, rfl, rfl, rfl, rfl⟩ | exact ⟨_, _, _, _, _, _, P, rfl, rfl, rfl, rfl, rfl, rfl⟩ | exact ⟨_, _, _, _, _, _, _, P, rfl, rfl, rfl, rfl, rfl, rfl, rfl⟩ | exact ⟨_, _, _, _, _, _, _, _, P, rfl, rfl, rfl, rfl, rfl, rfl, rfl, rfl⟩
                      case measure => (simp [intOf]; try omega)
        · obtain rfl : k = N := by omega
          obtain ⟨d, hd, hdf⟩ := HBB.out
          have hst : bstC (cards hs) (sortedL (cards hs) (i : Int) (j : Int)) al k = some d := by unfold bstC; rw [HN.out]; exact hd
          rw [hst] at hn hown ⊢
          have HASC := Lib.hid (bst_asc hst)
          have HR := Lib.hid (show fewR (cards hs) (i : Int) (j : Int) = pickP al d by rw [HC.out.2, hdf])
          have HRL := Lib.hid (show (fewR (cards hs) (i : Int) (j : Int)).length = n by rw [HR.out, pickP_length, hn]; rfl)
          simp only [Option.getD_some] at hn hown
          simp only [Option.isSome_some]
          have HN0 := Lib.hid hn
          have hn8 : n ≤ 8 := by
            obtain ⟨s, _, hs⟩ := bitsOf_hit _ _ HASC.out
            rw [hn, ← hs]
            have := bitsOf_len al.length s
            omega
          clear hn hst hd hdf
          go_wp2
          go_loopw [16, 104] (fun o q wr => FkR al d wo wr o q) (fun _ q _ => n - (intOf q).toNat)
          case atStart => exact ⟨0, _, 0, Nat.zero_le _, rfl, rfl, own_lit wo #[] 0 rfl (Nat.le_refl _) (by omega) rfl, ba (b0 _) _⟩
          case round =>
            obtain ⟨wi, rfl⟩ : ∃ wi : World, wi = wr := ⟨_, rfl⟩
            obtain ⟨q, P, cp, hq, rfl, rfl, ho, hbi⟩ := hrel
            rw [← HN0.out] at hq
            by_cases hlq : q < n
            · have hqd : q < d.length := by rw [← HN0.out]; exact hlq
              obtain ⟨v, hv⟩ : ∃ v, v = d[q] := ⟨_, rfl⟩
              have hva : v < al.length := by rw [hv]; exact (HASC.out.2 _ (List.getElem_mem hqd)).2
              have HT := Lib.hid (show pickP al (d.take (q + 1)) = pickP al (d.take q) ++ [al[v]] by
                rw [List.take_succ_eq_append_getElem hqd, pickP_snoc al _ (by rw [← hv]; exact hva)]
                congr 2
                simp only [hv])
              obtain ⟨bG, oG, rfl, _, hcG⟩ := (Rd.own hown).at_ hlq
              have d0 := cell_later hbi (hcG q (.int .i64 (v : Int)) (by rw [ints_get _ _ (by rw [zs_length]; exact hqd), hv]; simp [zs]))
              have HFA := HOF.out.rd
              obtain ⟨bF, oF, rfl, hbF, hcF⟩ := HFA.at_ hva
              have d1 := cell_later hbi (cell_later hbw (hcF _ _ (prs_fst al v hva)))
              have d2 := cell_later hbi (cell_later hbw (hcF _ _ (prs_snd al v hva)))
              rw [← Nat.add_assoc] at d2
              have i1 : (q : Int) < (n : Int) := by omega
              have i2 : (v : Int) < (al.length : Int) := by omega
              have hbz := hbi.size
              clear hcG hcF hv
              go_wp2_with (at_builtin; refine wpList_ap rfl (.tmp 108) (.tmp 113) 26 rfl wo.heap.size 46 i0 _ 2 16 Tryz.underlying26 hi hi0 hi1 hi2 rfl (by omega) P q cp (prs (pickP al (d.take q))) rfl wi ho 1 #[.int .i64 al[v].1, .int .i64 al[v].2] wi.heap.size rfl rfl rfl (prs_one [al[v]]) (by omega) (by omega) (by omega) hbz ?_; intro g2 c2 w7 ho7 hb7 hg7 _ _)
              have HO := Lib.hid (show w7.ownsRow wo.heap.size 46 2 (.slice (some ⟨g2, 0, none⟩) (q + 1) c2) (q + 1) (prs (pickP al (d.take (q + 1)))) by rw [HT.out, prs_append]; exact ho7)
              have HB := Lib.hid (hbi.trans hb7)
              have hq1 : q + 1 ≤ d.length := hqd
              clear ho7 hb7 hg7 ho
              go_roundw
              case rel =>
                have P : FkR al d wo w7 (.slice (some ⟨g2, 0, none⟩) (q + 1) c2) (.int .i64 ((q : Int) + 1)) := ⟨q + 1, _, _, hq1, by go_num, rfl, HO.out, HB.out⟩
                first | exact P | exact ⟨_, P, rfl⟩ | exact ⟨_, _, P, rfl, rfl⟩ | exact ⟨_, _, _, P, rfl, rfl, rfl⟩ | exact ⟨_, _, _, _, P, rfl, rfl, rfl, rfl⟩ | exact ⟨_, _, _, _, _, P, rfl, rfl, rfl, rfl, rfl⟩ | exact ⟨_, _, _, _, _, _, P, rfl, rfl, rfl, rfl, rfl, rfl⟩ | exact ⟨_, _, _, _, _, _, _, P, rfl, rfl, rfl, rfl, rfl, rfl, rfl⟩ | exact ⟨_, _, _, _, _, _, _, _, P, rfl, rfl, rfl, rfl, rfl, rfl, rfl, rfl⟩
              case measure => (simp [intOf]; try omega)
            · obtain rfl : q = n := by omega
              have HTK := Lib.hid (show d.take q = d from List.take_of_length_le (by rw [HN0.out]; exact Nat.le_refl _))
              rw [HTK.out] at ho
              have HO := Lib.hid (own_base ho (show w.heap.size ≤ wo.heap.size by have := hbw.size; have := HB3.out.size; omega))
              have HT := Lib.hid (bs (bs HB3.out hbw) hbi)
              clear ho
              go_wp2
              go_ret2
              refine ⟨P, cp, ret_kk HC.out.1.symm HRL.out.symm, ?_, HT.out⟩
              rw [HRL.out, HR.out]
              exact HO.out
  · have HC := Lib.hid (fewC_k hz)
    have HZ := Lib.hid hz
    clear hz
    go_enter Tryz.func9, Tryz.ntmps9
    go_wp2_with fail
    refine (sortCode_any _ _ hs _ _ _ ra hl).mono ?_; rintro e w1 ⟨rfl, hb1⟩
    have e0 : ¬ codeK (cards hs) a b = 0 := HZ.out
    go_wp2
    go_ret2
    refine ⟨none, 0, ret_kk HC.out.1.symm (by rw [HC.out.2]; rfl), ?_, bs T0 hb1⟩
    rw [HC.out.2]
    exact World.ownsRow_nil _ _ _ _
end Go.Proofs.YtkcnahjgkhgebaaGreat
