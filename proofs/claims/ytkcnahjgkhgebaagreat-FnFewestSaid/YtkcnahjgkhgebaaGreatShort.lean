/- ShortPlan; in the program and in the reference. -/
import Derived.Test.YtkcnahjgkhgebaaGreatKeysAll
import Derived.Test.YtkcnahjgkhgebaaGreatIdle
import Derived.Test.YtkcnahjgkhgebaaGreatDelPass
namespace Go.Proofs.YtkcnahjgkhgebaaGreat
open Go.RowKit

theorem info_passS : (Tryz.prog.info? 46).map (fun i => (i.zero, i.size, i.bytes)) = some (some (.agg #[.int .i64 0, .int .i64 0]), 2, 16) := by kernel_rfl
def idleP (L : List (List Int)) (p : Int × Int) : Bool := idleB L p.1.toNat p.2
theorem planOf_at {b : Int} {n : Nat} {p : Int × Int} (h : p ∈ planOf b n) : b - (n : Int) ≤ p.1 ∧ p.1 < b := by
  unfold planOf at h
  obtain ⟨i, hi, hp⟩ := List.mem_flatMap.1 h
  have := List.mem_range.1 hi
  simp at hp
  rcases hp with rfl | rfl <;> simp only <;> omega
def shortRes (L : List (List Int)) (a b : Int) : List (Int × Int) := if codeK L a b = 0 then keep (idleP L) (planOf b (b - a).toNat) else []
theorem shortRes_0 {L : List (List Int)} {a b : Int} (h : codeK L a b = 0) : shortRes L a b = keep (idleP L) (planOf b (b - a).toNat) := by unfold shortRes; rw [if_pos h]
theorem shortRes_1 {L : List (List Int)} {a b : Int} (h : codeK L a b ≠ 0) : shortRes L a b = [] := by unfold shortRes; rw [if_neg h]
theorem shortRes_len (L : List (List Int)) (a b : Int) : (shortRes L a b).length ≤ 40 := by
  by_cases h : codeK L a b = 0
  · rw [shortRes_0 h]
    obtain ⟨h1, h2, -⟩ := codeK_zero h
    have h3 := fieldOk_true h2
    have h4 := deckOk_wid h1
    have h5 : (keep (idleP L) (planOf b (b - a).toNat)).length ≤ (planOf b (b - a).toNat).length := by unfold keep; exact List.length_filter_le _ _
    rw [planOf_length] at h5
    omega
  · rw [shortRes_1 h]; simp
theorem pass_nat {b a : Int} {p : Int × Int} {W : Nat} (h : p ∈ planOf b (b - a).toNat) (h0 : 0 ≤ a) (h1 : a < b) (h2 : b ≤ (W : Int)) : ∃ i : Nat, p.1 = (i : Int) ∧ i < W := by
  have := planOf_at h
  exact ⟨p.1.toNat, by omega, by omega⟩

/-- Behind k passes. -/
def ShR (L : List (List Int)) (al : List (Int × Int)) (w wr : World) (o q : Value) : Prop := ∃ (k n : Nat) (G : Option Addr) (cg : Nat), k ≤ al.length ∧ q = .int .i64 k ∧ o = .slice G n cg ∧ n = (keep (idleP L) (al.take k)).length ∧
  wr.ownsRow w.heap.size 46 2 (.slice G n cg) n (prs (keep (idleP L) (al.take k))) ∧ Below w.heap.size w wr
set_option maxRecDepth 20000 in
set_option maxHeartbeats 4000000 in
theorem spShortPlan_any (D : Option Addr) (c : Nat) (hs : List Hd) (L : List (List Int)) (a b : Int) (w : World) (ha : RdD w w.heap.size D hs) (hL : cards hs = L) (hl : hs.length + tot hs ≤ 1048576) (_hc : hs.length ≤ c) :
    Calls Tryz.prog 18 #[.slice D hs.length c, .agg #[.int .i64 a, .int .i64 b]] w fun e w' => ∃ A cp, e = .returned (.tuple #[.slice A (shortRes L a b).length cp, .int .i64 (codeK L a b)]) ∧
      w'.ownsRow w.heap.size 46 2 (.slice A (shortRes L a b).length cp) (shortRes L a b).length (prs (shortRes L a b)) ∧ Below w.heap.size w w' := by
  obtain ⟨j0, hj, hj0, hj1, hj2⟩ := info_parts info_passS
  subst hL
  have T0 : Below w.heap.size w (w.alloc (.cells #[.int .i64 a, .int .i64 b] 31)) := ba (b0 w) _
  have ra := ha.a1 (.cells #[.int .i64 a, .int .i64 b] 31)
  by_cases hz : codeK (cards hs) a b = 0
  · obtain ⟨h1, h2, h3⟩ := codeK_zero hz
    have hf := fieldOk_true h2
    have hw := deckOk_wid h1
    have hpl : (planOf b (b - a).toNat).length ≤ 40 := by rw [planOf_length]; omega
    have HPN := Lib.hid (fun p (hp : p ∈ planOf b (b - a).toNat) => pass_nat hp hf.1 hf.2.1 hf.2.2)
    have HZ := Lib.hid hz
    have H1 := Lib.hid h1
    have HCF := Lib.hid (fun w => l08Full_any a b w hf.1 hf.2.1 (by omega))
    obtain ⟨al, hal⟩ : ∃ al, al = planOf b (b - a).toNat := ⟨_, rfl⟩
    have HR := Lib.hid (show shortRes (cards hs) a b = keep (idleP (cards hs)) al by rw [shortRes_0 hz, hal])
    rw [← hal] at hpl HPN HCF
    clear hz h1 h2 h3 hal
    go_enter Tryz.func18, Tryz.ntmps18
    go_wp2_with fail
    refine (l07Keys_any _ _ hs _ _ _ ra hl).mono ?_; rintro e w1 ⟨K, ck, rfl, hown0, hb1⟩
    have k2 : w1.cell? ⟨w.heap.size, 0, none⟩ = some (.int .i64 a) := cell_later hb1 (cell_new rfl rfl)
    have k3 : w1.cell? ⟨w.heap.size, 1, none⟩ = some (.int .i64 b) := cell_later hb1 (cell_new rfl rfl)
    have e0 : codeK (cards hs) a b = 0 := HZ.out
    have T1 := bs T0 hb1
    have r1 := ra.up hb1
    clear hown0 hb1 ra
    go_wp2_with fail
    refine (HCF.out _).mono ?_; rintro e w2 ⟨F, cf, rfl, hoF, hb2⟩
    clear e0
    have T2 := bs T1 hb2
    have r2 := r1.up hb2
    have rF := Rd.own hoF
    clear hoF hb2
    go_wp2
    go_loopw [9, 10] (fun o q wr => ShR (cards hs) al w2 wr o q) (fun _ q _ => al.length - (intOf q).toNat)
    case atStart => exact ⟨0, 0, _, _, Nat.zero_le _, rfl, rfl, rfl, own_lit w2 #[] 0 rfl (Nat.le_refl _) (by omega) rfl, ba (b0 w2) (.cells #[] 46)⟩
    case round =>
      obtain ⟨wo, rfl⟩ : ∃ wo : World, wo = wr := ⟨_, rfl⟩
      obtain ⟨k, n, G, cg, hk, rfl, rfl, hn, hown, hbw⟩ := hrel
      have HN := Lib.hid hn
      have hnk : n ≤ k := by rw [hn]; exact keep_le _ _ _
      clear hn
      by_cases hlt : k < al.length
      · obtain ⟨i, hi, hiw⟩ := HPN.out al[k] (List.getElem_mem hlt)
        obtain ⟨b1, o1, rfl, _, hc⟩ := rF.at_ hlt
        have d1 := cell_later hbw (hc _ _ (prs_fst al k hlt))
        have d2 := cell_later hbw (hc _ _ (prs_snd al k hlt))
        rw [← Nat.add_assoc] at d2
        obtain ⟨m, hm⟩ : ∃ m, m = al[k].2 := ⟨_, rfl⟩
        rw [hi] at d1
        rw [← hm] at d2
        have HPK := Lib.hid (show al[k] = ((i : Int), m) by rw [hm, ← hi])
        have HIP := Lib.hid (show idleP (cards hs) al[k] = idleB (cards hs) i m by rw [HPK.out]; rfl)
        have i1 : (k : Int) < (al.length : Int) := by omega
        have r3 := r2.up hbw
        clear hi hm hc
        rcases Bool.eq_false_or_eq_true (idleB (cards hs) i m) with hp | hp
        · have HK := Lib.hid (keep_yes (p := idleP (cards hs)) hlt (by rw [HIP.out, hp]))
          have HP := Lib.hid hp
          clear hp
          have HCON := Lib.hid (l08Idle_any D c hs i m wo r3 H1.out hiw (by omega))
          rw [HP.out] at HCON
          go_wp2_with fail
          refine HCON.out.mono ?_; rintro e w4 ⟨rfl, hb4⟩
          have HO := Lib.hid (own_bs hown hb4)
          have HB := Lib.hid (bs hbw hb4)
          clear hown hbw hb4
          go_wp2
          go_roundw
          case rel =>
            have P : ShR (cards hs) al w2 w4 (.slice G n cg) (.int .i64 ((k : Int) + 1)) := ⟨k + 1, n, G, cg, by omega, by go_num, rfl, by rw [HK.out]; exact HN.out, by rw [HK.out]; exact HO.out, HB.out⟩
            first | exact P | exact ⟨_, P, rfl⟩ | exact ⟨_, _, P, rfl, rfl⟩ | exact ⟨_, _, _, P, rfl, rfl, rfl⟩ | exact ⟨_, _, _, _, P, rfl, rfl, rfl, rfl⟩ | exact ⟨_, _, _, _, _, P, rfl, rfl, rfl, rfl, rfl⟩ | exact ⟨_, _, _, _, _, _, P, rfl, rfl, rfl, rfl, rfl, rfl⟩ | exact ⟨_, _, _, _, _, _, _, P, rfl, rfl, rfl, rfl, rfl, rfl, rfl⟩ | exact ⟨_, _, _, _, _, _, _, _, P, rfl, rfl, rfl, rfl, rfl, rfl, rfl, rfl⟩
          case measure => simp [intOf]; omega
        · have HK := Lib.hid (keep_no (p := idleP (cards hs)) hlt (by rw [HIP.out, hp]))
          have HP := Lib.hid hp
          clear hp
          have HCON := Lib.hid (l08Idle_any D c hs i m wo r3 H1.out hiw (by omega))
          rw [HP.out] at HCON
          go_wp2_with fail
          refine HCON.out.mono ?_; rintro e w4 ⟨rfl, hb4⟩
          have hownN := own_bs hown hb4
          have TB := bs hbw hb4
          have hbase := TB.size
          replace d1 := cell_later hb4 d1
          replace d2 := cell_later hb4 d2
          clear hown hbw hb4
          go_wp2_with (at_builtin; refine wpList_ap rfl (.tmp 36) (.tmp 41) 26 rfl w2.heap.size 46 j0 _ 2 16 Tryz.underlying26 hj hj0 hj1 hj2 rfl (by omega) _ n _ (prs (keep (idleP (cards hs)) (al.take k))) rfl w4 hownN 1 #[.int .i64 (i : Int), .int .i64 m] w4.heap.size rfl rfl rfl (by intro v hv; simp at hv; rcases hv with rfl | rfl <;> rfl) (by omega) (by omega) (by omega) hbase ?_; intro gg cap w6 hown6 hb6 hg6 _ _)
          have HO := Lib.hid (show w6.ownsRow w2.heap.size 46 2 (.slice (some ⟨gg, 0, none⟩) (n + 1) cap) (n + 1) (prs (keep (idleP (cards hs)) (al.take (k + 1)))) by rw [HK.out, prs_append, HPK.out]; exact hown6)
          have HB := Lib.hid (TB.trans hb6)
          clear hown6 hownN hb6 hg6 TB
          go_wp2
          go_roundw
          case rel =>
            have P : ShR (cards hs) al w2 w6 (.slice (some ⟨gg, 0, none⟩) (n + 1) cap) (.int .i64 ((k : Int) + 1)) := ⟨k + 1, n + 1, some ⟨gg, 0, none⟩, cap, by omega, by go_num, rfl, by rw [HK.out, List.length_append, ← HN.out]; rfl, HO.out, HB.out⟩
            first | exact P | exact ⟨_, P, rfl⟩ | exact ⟨_, _, P, rfl, rfl⟩ | exact ⟨_, _, _, P, rfl, rfl, rfl⟩ | exact ⟨_, _, _, _, P, rfl, rfl, rfl, rfl⟩ | exact ⟨_, _, _, _, _, P, rfl, rfl, rfl, rfl, rfl⟩ | exact ⟨_, _, _, _, _, _, P, rfl, rfl, rfl, rfl, rfl, rfl⟩ | exact ⟨_, _, _, _, _, _, _, P, rfl, rfl, rfl, rfl, rfl, rfl, rfl⟩ | exact ⟨_, _, _, _, _, _, _, _, P, rfl, rfl, rfl, rfl, rfl, rfl, rfl, rfl⟩
          case measure => simp [intOf]; omega
      · obtain rfl : k = al.length := by omega
        have HT := Lib.hid (show al.take al.length = al from List.take_of_length_le (Nat.le_refl _))
        have HNR := Lib.hid (show n = (shortRes (cards hs) a b).length by rw [HR.out, HN.out, HT.out])
        have HO := Lib.hid (show wo.ownsRow w.heap.size 46 2 (.slice G n cg) n (prs (shortRes (cards hs) a b)) by
          rw [HR.out]
          have h1 := hown
          rw [HT.out] at h1
          exact own_base h1 T2.size)
        clear hown
        go_wp2
        go_ret2
        refine ⟨G, cg, ret_kk HZ.out.symm HNR.out, ?_, bs T2 hbw⟩
        rw [← HNR.out]
        exact HO.out
  · have HR := Lib.hid (shortRes_1 hz)
    go_enter Tryz.func18, Tryz.ntmps18
    go_wp2_with fail
    refine (l07Keys_any _ _ hs _ _ _ ra hl).mono ?_; rintro e w1 ⟨K, ck, rfl, hown, hb1⟩
    go_wp2
    go_ret2
    refine ⟨none, 0, ret_kk rfl (by rw [HR.out]; rfl), ?_, bs T0 hb1⟩
    rw [HR.out]
    exact World.ownsRow_nil _ _ _ _
end Go.Proofs.YtkcnahjgkhgebaaGreat
