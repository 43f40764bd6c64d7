/- Steps and groups; IsSorted, FirstStep; in the program and in the reference. -/
import Derived.Test.YteeaeomkpecflaaKeys2
namespace Go.Proofs.Yteeaeomkpecflaa
open Go.RowKit

theorem ret_bk {p q : Bool} {a b : Int} (h : p = q) (k : a = b) : Ending.returned (.tuple #[.bool p, .int .i64 a]) = .returned (.tuple #[.bool q, .int .i64 b]) := by rw [h, k]
theorem ret_ik {a b c d : Int} (h : a = b) (k : c = d) : Ending.returned (.tuple #[.int .i64 a, .int .i64 c]) = .returned (.tuple #[.int .i64 b, .int .i64 d]) := by rw [h, k]
theorem beq_zero_dec (n : Nat) : ((n : Int) == 0) = decide (n = 0) := by
  rw [Bool.eq_iff_iff]
  simp
theorem info_i64K : (Try.prog.info? 2).map (fun i => (i.zero, i.size, i.bytes)) = some (some (.int .i64 0), 1, 8) := by kernel_rfl
theorem compareFields_z (A B : Option Addr) (c d : Nat) (xs ys : List Int) (i j : Nat) (z : Int) (w : World) (hz : z = cmpR (part xs (i : Int) (j : Int)) (part ys (i : Int) (j : Int))) (ha : Rd w w.heap.size 1 A xs.length (ints xs)) (hb : Rd w w.heap.size 1 B ys.length (ints ys)) (hij : i < j) (hj : j ≤ xs.length) (hj' : j ≤ ys.length) (hl : xs.length ≤ 1048576) (hl' : ys.length ≤ 1048576)
    (hc : xs.length ≤ c) (hd : ys.length ≤ d) :
    Calls Try.prog 104 #[.agg #[.slice A xs.length c], .agg #[.slice B ys.length d], .agg #[.int .i64 (i : Int), .int .i64 (j : Int)]] w fun e w' => e = .returned (.int .i64 z) ∧ Below w.heap.size w w' := by
  subst hz
  exact compareFields_any A B c d xs ys i j w ha hb hij hj hj' hl hl' hc hd
/-- Behind the cards before k. -/
def StR (L : List (List Int)) (i j : Nat) (w wr : World) (o q : Value) : Prop := ∃ (k : Nat) (g cg : Nat), 1 ≤ k ∧ k ≤ 41 ∧ q = .int .i64 k ∧ o = .slice (some ⟨g, 0, none⟩) (stepsL L (i : Int) (j : Int) (min k L.length)).length cg ∧
  wr.ownsRow w.heap.size 2 1 (.slice (some ⟨g, 0, none⟩) (stepsL L (i : Int) (j : Int) (min k L.length)).length cg) (stepsL L (i : Int) (j : Int) (min k L.length)).length (ints (stepsL L (i : Int) (j : Int) (min k L.length))) ∧ Below w.heap.size w wr

set_option maxRecDepth 20000 in
set_option maxHeartbeats 4000000 in
theorem steps_any (D : Option Addr) (c : Nat) (hs : List Hd) (i j : Nat) (w : World) (ha : RdD w w.heap.size D hs) (hok : deckOk (cards hs) = true) (hij : i < j) (hj : j ≤ deckW (cards hs)) (hl : hs.length + tot hs ≤ 1048576) :
    Calls Try.prog 93 #[.slice D hs.length c, .agg #[.int .i64 (i : Int), .int .i64 (j : Int)]] w fun e w' => ∃ G cg, e = .returned (.slice G (stepsL (cards hs) (i : Int) (j : Int) hs.length).length cg) ∧
      w'.ownsRow w.heap.size 2 1 (.slice G (stepsL (cards hs) (i : Int) (j : Int) hs.length).length cg) (stepsL (cards hs) (i : Int) (j : Int) hs.length).length (ints (stepsL (cards hs) (i : Int) (j : Int) hs.length)) ∧ Below w.heap.size w w' := by
  obtain ⟨j0, hj0', hj0, hj1, hj2⟩ := info_parts info_i64K
  have HCL := Lib.hid (cards_length hs)
  have HOK := Lib.hid hok
  have h40 : hs.length ≤ 40 := by have := deckOk_len hok; rwa [cards_length] at this
  have T0 : Below w.heap.size w (w.alloc (.cells #[.int .i64 (i : Int), .int .i64 (j : Int)] 31)) := ba (b0 w) _
  have ra := ha.a1 (.cells #[.int .i64 (i : Int), .int .i64 (j : Int)] 31)
  obtain ⟨W, hW⟩ : ∃ W, W = w.alloc (.cells #[.int .i64 (i : Int), .int .i64 (j : Int)] 31) := ⟨_, rfl⟩
  have k2 : W.cell? ⟨w.heap.size, 0, none⟩ = some (.int .i64 (i : Int)) := by rw [hW]; exact cell_new rfl rfl
  have k3 : W.cell? ⟨w.heap.size, 1, none⟩ = some (.int .i64 (j : Int)) := by rw [hW]; exact cell_new rfl rfl
  rw [← hW] at T0 ra
  have HW := Lib.hid hW
  have HWS := Lib.hid (show W.heap.size = w.heap.size + 1 by rw [hW]; simp)
  clear hW hok
  go_enter Try.func93, Try.ntmps93
  go_wp2
  rw [← HW.out]
  go_loopw [5, 6] (fun o q wr => StR (cards hs) i j W wr o q) (fun _ q _ => hs.length + 1 - (intOf q).toNat)
  case atStart =>
    have h0 : stepsL (cards hs) (i : Int) (j : Int) (min 1 (cards hs).length) = [] := by
      rcases Nat.eq_zero_or_pos (cards hs).length with h0 | h0
      · rw [h0]; simp [stepsL_zero]
      · rw [Nat.min_eq_left (by omega), stepsL_one]
    refine ⟨1, w.heap.size + 1, 0, by omega, by omega, rfl, by rw [h0]; rfl, ?_, ba (b0 W) (.cells #[] 2)⟩
    rw [h0]
    exact own_lit W #[] 0 HWS.out.symm (Nat.le_refl _) (by omega) rfl
  case round =>
    obtain ⟨wo, rfl⟩ : ∃ wo : World, wo = wr := ⟨_, rfl⟩
    obtain ⟨k, g, cg, hk1, hk41, rfl, rfl, hown, hbw⟩ := hrel
    by_cases hlt : k < hs.length
    · have hltp : k - 1 < hs.length := by omega
      have hkL : k < (cards hs).length := by rw [HCL.out]; exact hlt
      have HMIN := Lib.hid (show min k (cards hs).length = k by omega)
      have HMIN2 := Lib.hid (show min (k + 1) (cards hs).length = k + 1 by omega)
      rw [HMIN.out] at hown ⊢
      have hsl := stepsL_len (cards hs) (i : Int) (j : Int) k
      have hrc := ra.up hbw
      have rc := hrc.card_at hlt
      have rc' := hrc.card_at hltp
      have hcap := hrc.cap_at hlt
      have hcap' := hrc.cap_at hltp
      have hlc : hs[k].xs.length ≤ 1048576 := by have := tot_at hs k hlt; omega
      have hlc' : hs[k - 1].xs.length ≤ 1048576 := by have := tot_at hs (k - 1) hltp; omega
      have hjk : j ≤ hs[k].xs.length := by rw [← deckW_at HOK.out hlt]; exact hj
      have hjk' : j ≤ hs[k - 1].xs.length := by rw [← deckW_at HOK.out hltp]; exact hj
      obtain ⟨z, hz⟩ : ∃ z, z = cmpR (part hs[k].xs (i : Int) (j : Int)) (part hs[k - 1].xs (i : Int) (j : Int)) := ⟨_, rfl⟩
      have HZ := Lib.hid hz
      have HZC := Lib.hid (show z = cmpC (cards hs) (i : Int) (j : Int) k (k - 1) by rw [hz, cmpC_hd hlt hltp])
      obtain ⟨b1, o1, rfl, _, hcell⟩ := hrc.at_ hlt
      have d1 := hcell k hlt
      have d2 := hcell (k - 1) hltp
      have d3 := cell_later hbw k2
      have d4 := cell_later hbw k3
      have l1 := fun x : Later wo => lat_cell x d1
      have l2 := fun x : Later wo => lat_cell x d2
      have l3 := fun x : Later wo => lat_cell x d3
      have l4 := fun x : Later wo => lat_cell x d4
      have i1 : (k : Int) < (hs.length : Int) := by omega
      have i2 : ((k - 1 : Nat) : Int) < (hs.length : Int) := by omega
      have hw1 : IntKind.i64.wrap ((k : Int) - 1) = ((k - 1 : Nat) : Int) := by rw [IntWalk.i64_in _ (by omega)]; omega
      have hbase := hbw.size
      obtain ⟨ss, hss⟩ : ∃ ss, ss = stepsL (cards hs) (i : Int) (j : Int) k := ⟨_, rfl⟩
      rw [← hss] at hown hsl ⊢
      have HSS := Lib.hid hss
      clear hz hcell d1 d2 d3 d4 hss hkL hrc
      by_cases hp : z < 0
      · have HR := Lib.hid (show stepsL (cards hs) (i : Int) (j : Int) (min (k + 1) (cards hs).length) = ss ++ [(k : Int)] by rw [HMIN2.out, stepsL_yes hk1 (by rw [← HZC.out]; exact hp), HSS.out])
        go_wp2_with fail
        refine wp_region_later (by kernel_rfl) (by kernel_rfl) ?_
        repeat (go_big_quiet_step ((go_at_call 104; exact lat_call (compareFields_z _ _ _ _ hs[k].xs hs[k - 1].xs i j z _ HZ.out (lat_rd _ rc) (lat_rd _ rc') hij hjk hjk' hlc hlc' hcap hcap'))))
        refine wpQuiet_nil ?_
        intro w4 hb4
        have hownN := own_bs hown hb4
        have TB := bs hbw hb4
        have hbase4 := TB.size
        clear hw1 hown hb4 hbw rc rc' l1 l2 l3 l4
        go_wp2_with (at_builtin; refine wpList_ap rfl (.tmp 26) (.tmp 28) 26 rfl W.heap.size 2 j0 _ 1 8 Try.underlying26 hj0' hj0 hj1 hj2 rfl (by omega) _ ss.length _ (ints ss) rfl w4 hownN 1 #[.int .i64 (k : Int)] w4.heap.size rfl rfl rfl (by intro v hv; simp at hv; subst hv; rfl) (by omega) (by omega) (by omega) hbase4 ?_; intro gg cap w6 hown6 hb6 hg6 _ _)
        have HO := Lib.hid (show w6.ownsRow W.heap.size 2 1 (.slice (some ⟨gg, 0, none⟩) (ss.length + 1) cap) (ss.length + 1) (ints (ss ++ [(k : Int)])) by rw [ints_snoc]; exact hown6)
        have HB := Lib.hid (TB.trans hb6)
        clear hown6 hownN hb6 hg6 TB
        go_wp2
        go_roundw
        case rel =>
          have P : StR (cards hs) i j W w6 (.slice (some ⟨gg, 0, none⟩) (ss.length + 1) cap) (.int .i64 ((k : Int) + 1)) := ⟨k + 1, gg, cap, by omega, by omega, by go_num, by rw [HR.out, List.length_append]; rfl, by rw [HR.out, List.length_append]; exact HO.out, HB.out⟩
          first | exact P | exact ⟨_, P, rfl⟩ | exact ⟨_, _, P, rfl, rfl⟩ | exact ⟨_, _, _, P, rfl, rfl, rfl⟩ | exact ⟨_, _, _, _, P, rfl, rfl, rfl, rfl⟩ | exact ⟨_, _, _, _, _, P, rfl, rfl, rfl, rfl, rfl⟩ | exact ⟨_, _, _, _, _, _, P, rfl, rfl, rfl, rfl, rfl, rfl⟩ | exact ⟨_, _, _, _, _, _, _, P, rfl, rfl, rfl, rfl, rfl, rfl, rfl⟩ | exact ⟨_, _, _, _, _, _, _, _, P, rfl, rfl, rfl, rfl, rfl, rfl, rfl, rfl⟩
        case measure => simp [intOf]; omega
      · have HR := Lib.hid (show stepsL (cards hs) (i : Int) (j : Int) (min (k + 1) (cards hs).length) = ss by rw [HMIN2.out, stepsL_no (by rw [← HZC.out]; exact hp), HSS.out])
        go_wp2_with fail
        refine wp_region_later (by kernel_rfl) (by kernel_rfl) ?_
        repeat (go_big_quiet_step ((go_at_call 104; exact lat_call (compareFields_z _ _ _ _ hs[k].xs hs[k - 1].xs i j z _ HZ.out (lat_rd _ rc) (lat_rd _ rc') hij hjk hjk' hlc hlc' hcap hcap'))))
        refine wpQuiet_nil ?_
        intro w4 hb4
        have HO := Lib.hid (own_bs hown hb4)
        have HB := Lib.hid (bs hbw hb4)
        clear hw1 hown hb4 hbw rc rc' l1 l2 l3 l4
        go_wp2
        go_roundw
        case rel =>
          have P : StR (cards hs) i j W w4 (.slice (some ⟨g, 0, none⟩) ss.length cg) (.int .i64 ((k : Int) + 1)) := ⟨k + 1, g, cg, by omega, by omega, by go_num, by rw [HR.out], by rw [HR.out]; exact HO.out, HB.out⟩
          first | exact P | exact ⟨_, P, rfl⟩ | exact ⟨_, _, P, rfl, rfl⟩ | exact ⟨_, _, _, P, rfl, rfl, rfl⟩ | exact ⟨_, _, _, _, P, rfl, rfl, rfl, rfl⟩ | exact ⟨_, _, _, _, _, P, rfl, rfl, rfl, rfl, rfl⟩ | exact ⟨_, _, _, _, _, _, P, rfl, rfl, rfl, rfl, rfl, rfl⟩ | exact ⟨_, _, _, _, _, _, _, P, rfl, rfl, rfl, rfl, rfl, rfl, rfl⟩ | exact ⟨_, _, _, _, _, _, _, _, P, rfl, rfl, rfl, rfl, rfl, rfl, rfl, rfl⟩
        case measure => simp [intOf]; omega
    · have HMIN := Lib.hid (show min k (cards hs).length = hs.length by have := HCL.out; omega)
      rw [HMIN.out] at hown ⊢
      go_wp2
      go_ret
      exact ⟨_, cg, rfl, own_base hown T0.size, bs T0 hbw⟩

def srtRes (L : List (List Int)) (a b : Int) : Bool := if codeK L a b = 0 then decide ((stepsL L a b L.length).length = 0) else false
theorem srtRes_0 {L : List (List Int)} {a b : Int} (h : codeK L a b = 0) : srtRes L a b = decide ((stepsL L a b L.length).length = 0) := by unfold srtRes; rw [if_pos h]
theorem srtRes_1 {L : List (List Int)} {a b : Int} (h : codeK L a b ≠ 0) : srtRes L a b = false := by unfold srtRes; rw [if_neg h]
def fstRes (L : List (List Int)) (a b : Int) : Int := if codeK L a b = 0 then stepF L a b L.length else 0
theorem fstRes_0 {L : List (List Int)} {a b : Int} (h : codeK L a b = 0) : fstRes L a b = stepF L a b L.length := by unfold fstRes; rw [if_pos h]
theorem fstRes_1 {L : List (List Int)} {a b : Int} (h : codeK L a b ≠ 0) : fstRes L a b = 0 := by unfold fstRes; rw [if_neg h]

set_option maxHeartbeats 2000000 in
theorem IsSorted_any (D : Option Addr) (c : Nat) (hs : List Hd) (L : List (List Int)) (a b : Int) (w : World) (ha : RdD w w.heap.size D hs) (hL : cards hs = L) (hl : hs.length + tot hs ≤ 1048576) (_hc : hs.length ≤ c) :
    Calls Try.prog 43 #[.slice D hs.length c, .agg #[.int .i64 a, .int .i64 b]] w fun e w' => e = .returned (.tuple #[.bool (srtRes L a b), .int .i64 (codeK L a b)]) ∧ Below w.heap.size w w' := by
  subst hL
  have T0 : Below w.heap.size w (w.alloc (.cells #[.int .i64 a, .int .i64 b] 31)) := ba (b0 w) _
  have ra := ha.a1 (.cells #[.int .i64 a, .int .i64 b] 31)
  have HCL := Lib.hid (cards_length hs)
  by_cases hz : codeK (cards hs) a b = 0
  · obtain ⟨h1, h2, h3⟩ := codeK_zero hz
    obtain ⟨i, j, rfl, rfl, hij, hjw⟩ := fieldOk_nat h2
    have HZ := Lib.hid hz
    have H1 := Lib.hid h1
    have HR := Lib.hid (srtRes_0 hz)
    clear hz h1 h2 h3
    go_enter Try.func43, Try.ntmps43
    go_wp2_with fail
    refine (sortCode_any _ _ hs _ _ _ ra hl).mono ?_; rintro e w1 ⟨rfl, hb1⟩
    have k2 : w1.cell? ⟨w.heap.size, 0, none⟩ = some (.int .i64 (i : Int)) := cell_later hb1 (cell_new rfl rfl)
    have k3 : w1.cell? ⟨w.heap.size, 1, none⟩ = some (.int .i64 (j : Int)) := cell_later hb1 (cell_new rfl rfl)
    have e0 : codeK (cards hs) (i : Int) (j : Int) = 0 := HZ.out
    go_wp2_with fail
    refine (steps_any _ _ hs i j _ (ra.up hb1) H1.out hij hjw hl).mono ?_; rintro e w2 ⟨G, cg, rfl, hown, hb2⟩
    clear e0
    go_wp2
    go_ret2
    exact ⟨ret_bk (by rw [HR.out, HCL.out]; exact beq_zero_dec _) HZ.out.symm, bs (bs T0 hb1) hb2⟩
  · have HR := Lib.hid (srtRes_1 hz)
    go_enter Try.func43, Try.ntmps43
    go_wp2_with fail
    refine (sortCode_any _ _ hs _ _ _ ra hl).mono ?_; rintro e w1 ⟨rfl, hb1⟩
    go_wp2
    go_ret2
    exact ⟨ret_bk HR.out.symm rfl, bs T0 hb1⟩

theorem head_cell {l : List Int} (h : 0 < l.length) : (ints l)[0]? = some (.int .i64 (l.headD (-1))) := by
  cases l with
  | nil => simp at h
  | cons a l => simp [ints]
set_option maxHeartbeats 2000000 in
theorem FirstStep_any (D : Option Addr) (c : Nat) (hs : List Hd) (L : List (List Int)) (a b : Int) (w : World) (ha : RdD w w.heap.size D hs) (hL : cards hs = L) (hl : hs.length + tot hs ≤ 1048576) (_hc : hs.length ≤ c) :
    Calls Try.prog 44 #[.slice D hs.length c, .agg #[.int .i64 a, .int .i64 b]] w fun e w' => e = .returned (.tuple #[.int .i64 (fstRes L a b), .int .i64 (codeK L a b)]) ∧ Below w.heap.size w w' := by
  subst hL
  have T0 : Below w.heap.size w (w.alloc (.cells #[.int .i64 a, .int .i64 b] 31)) := ba (b0 w) _
  have ra := ha.a1 (.cells #[.int .i64 a, .int .i64 b] 31)
  have HCL := Lib.hid (cards_length hs)
  by_cases hz : codeK (cards hs) a b = 0
  · obtain ⟨h1, h2, h3⟩ := codeK_zero hz
    obtain ⟨i, j, rfl, rfl, hij, hjw⟩ := fieldOk_nat h2
    have HZ := Lib.hid hz
    have H1 := Lib.hid h1
    have HR := Lib.hid (fstRes_0 hz)
    have h40 : hs.length ≤ 40 := by have := deckOk_len h1; rwa [cards_length] at this
    have hsl := stepsL_len (cards hs) (i : Int) (j : Int) hs.length
    obtain ⟨ss, hss⟩ : ∃ ss, ss = stepsL (cards hs) (i : Int) (j : Int) hs.length := ⟨_, rfl⟩
    have HF := Lib.hid (show fstRes (cards hs) (i : Int) (j : Int) = ss.headD (-1) by rw [HR.out, HCL.out, hss]; rfl)
    have HCO := Lib.hid (steps_any D c hs i j)
    rw [← hss] at hsl HCO
    clear hz h1 h2 h3 hss
    by_cases hp : 0 < ss.length
    · have HC := Lib.hid (head_cell hp)
      go_enter Try.func44, Try.ntmps44
      go_wp2_with fail
      refine (sortCode_any _ _ hs _ _ _ ra hl).mono ?_; rintro e w1 ⟨rfl, hb1⟩
      have k2 : w1.cell? ⟨w.heap.size, 0, none⟩ = some (.int .i64 (i : Int)) := cell_later hb1 (cell_new rfl rfl)
      have k3 : w1.cell? ⟨w.heap.size, 1, none⟩ = some (.int .i64 (j : Int)) := cell_later hb1 (cell_new rfl rfl)
      have e0 : codeK (cards hs) (i : Int) (j : Int) = 0 := HZ.out
      go_wp2_with fail
      refine (HCO.out _ (ra.up hb1) H1.out hij hjw hl).mono ?_; rintro e w2 ⟨G, cg, rfl, hown, hb2⟩
      obtain ⟨b1, o1, rfl, _, hc1⟩ := (Rd.own hown).at_ hp
      have d1 := hc1 0 _ HC.out
      rw [Nat.add_zero] at d1
      have i0 : (0 : Int) < (ss.length : Int) := by omega
      clear hc1 hown e0 k2 k3
      go_wp2
      go_ret2
      exact ⟨ret_ik (by rw [HF.out]; cases ss <;> rfl) HZ.out.symm, bs (bs T0 hb1) hb2⟩
    · have HE := Lib.hid (show fstRes (cards hs) (i : Int) (j : Int) = -1 by rw [HF.out, show ss = [] from List.eq_nil_of_length_eq_zero (by omega)]; rfl)
      have hz0 : ss.length = 0 := by omega
      clear hp
      go_enter Try.func44, Try.ntmps44
      go_wp2_with fail
      refine (sortCode_any _ _ hs _ _ _ ra hl).mono ?_; rintro e w1 ⟨rfl, hb1⟩
      have k2 : w1.cell? ⟨w.heap.size, 0, none⟩ = some (.int .i64 (i : Int)) := cell_later hb1 (cell_new rfl rfl)
      have k3 : w1.cell? ⟨w.heap.size, 1, none⟩ = some (.int .i64 (j : Int)) := cell_later hb1 (cell_new rfl rfl)
      have e0 : codeK (cards hs) (i : Int) (j : Int) = 0 := HZ.out
      go_wp2_with fail
      refine (HCO.out _ (ra.up hb1) H1.out hij hjw hl).mono ?_; rintro e w2 ⟨G, cg, rfl, hown, hb2⟩
      clear e0
      go_wp2
      go_ret2
      exact ⟨ret_ik HE.out.symm HZ.out.symm, bs (bs T0 hb1) hb2⟩
  · have HR := Lib.hid (fstRes_1 hz)
    go_enter Try.func44, Try.ntmps44
    go_wp2_with fail
    refine (sortCode_any _ _ hs _ _ _ ra hl).mono ?_; rintro e w1 ⟨rfl, hb1⟩
    go_wp2
    go_ret2
    exact ⟨ret_ik HR.out.symm rfl, bs T0 hb1⟩

end Go.Proofs.Yteeaeomkpecflaa
