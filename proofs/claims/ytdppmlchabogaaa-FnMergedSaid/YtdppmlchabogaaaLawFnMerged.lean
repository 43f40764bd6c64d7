/- The law FnMerged answers true at every input, and its argument stays as it was; conditions: none. -/
import Derived.Test.YtdppmlchabogaaaRows
import Derived.Test.YtdppmlchabogaaaLawBase
import Derived.Test.YtdppmlchabogaaaOpenBytes
import Derived.Test.YtdppmlchabogaaaTwoDraw
import Derived.Test.YtdppmlchabogaaaTwoLaw
import Derived.Test.YtdppmlchabogaaaMergeSp2
import Derived.Test.YtdppmlchabogaaaInsImpl
import Derived.Deep.RegionHeld3
import Derived.Deep.DeepCutAuto
namespace Go.Proofs.Ytdppmlchabogaaa
open Go.RowKit Go.ChangeShapes Go.WideShapes Go.ChangeAt

/-! ### the plain law -/
theorem good_merge {L M : List (List Int)} {wd i j : Nat} (h : GoodD wd L) (k : GoodD wd M) (h1 : 1 ≤ wd) (h2 : wd ≤ 20) (h3 : L.length + M.length ≤ 40) (hij : i < j) (hj : j ≤ wd)
    (hs : (stepsL L (i : Int) (j : Int) L.length).length = 0) (hs' : (stepsL M (i : Int) (j : Int) M.length).length = 0) : mgeC L M (i : Int) (j : Int) = 0 :=
  mgeC_0 (good_two h k h1 h2 (by omega) (by omega) hij hj) (good_clash h k) ⟨hs, hs'⟩ (by omega)
/-- Two rows of cards laid one behind the other. -/
theorem rdd_join2 {w : World} {B : Nat} {X Y : Option Addr} {hs gs : List Hd} (h : RdD w B X hs) (k : RdD w B Y gs) {G : Option Addr} {B' : Nat} {us : List Hd} (hu : us = hs ++ gs) (hr : Rd w B' 1 G us.length (heads us)) (hB : B ≤ B') : RdD w B' G us := by
  subst hu
  exact ⟨hr, fun x hx => by
    rcases List.mem_append.1 hx with hx | hx
    · exact (h.card x hx).more hB
    · exact (k.card x hx).more hB, fun x hx => by
    rcases List.mem_append.1 hx with hx | hx
    · exact h.cap x hx
    · exact k.cap x hx⟩

section
variable {P : Program}
/-- 'append(out, list...)' at a step of a region that draws its order. -/
theorem step_apy {ops : Array Oper} {o : Oper} {a : Act} {K : Act → World → Prop} {Q : Exit → Act → World → Prop} {E : Prop} (hgd : o.guard = none) (s x : Operand) (t : TypeId)
    (ho : o.op = .call { callee := .builtin .append, args := #[s, x], argTypes := #[t, t] })
    (base : Nat) (e : TypeId) (i : TypeInfo) (z : Value) (size bytes : Nat) (ht : P.underlying t = some (.slice e)) (hi : P.info? e = some i) (hz : i.zero = some z)
    (hsize : i.size = size) (hby : i.bytes = bytes) (hzs : z.cells.size = size) (hsz : 0 < size)
    (A : Option Addr) (n c : Nat) (xs : List Value) (w : World) (hs : a.eval s = .slice A n c) (hown : w.ownsRow base e size (.slice A n c) n xs) (B : Nat) (A' : Option Addr) (m c' : Nat) (news : List Value) (hx : a.eval x = .slice A' m c') (hr : Rd w B size A' m news) (h1 : ∀ u ∈ news, u.oneCell' = true)
    (h63 : n + m ≤ 1099511627776) (hbytes : bytes ≤ 128) (hbase : base ≤ w.heap.size) (N : Nat) (hN : n + m = N) (zs : List Value) (hzs' : xs ++ news = zs)
    (h : ∀ G cap w', w'.ownsRow base e size (.slice G N cap) N zs → Below base w w' → K (a.put o.dst (.slice G N cap)) w') :
    if Region.wanted o (yielded ops a.tmps) = true then Oper.wp P o a w K Q else E := by
  subst hN hzs'
  have hw : Region.wanted o (yielded ops a.tmps) = true := by simp [Region.wanted, hgd]
  rw [if_pos hw]
  obtain ⟨G, cap, w', hrun, h2, h3⟩ := run_append_src (P := P) base t o.type e i z size bytes ht hi hz hsize hby hzs hsz A n c xs hown B A' m c' news hr h1 h63 hbytes hbase
  unfold Oper.wp execOp
  simp only [ho, resolve, invoke, builtin, Sem.run_bind, Sem.run_pure, Result.andThen_ok, List.map_toArray, List.map_cons, List.map_nil, hs, hx, hrun]
  exact h G cap w' h2 ((Below.refl _ _).grown h3 hbase fun k hk => (hown.lt k hk).1)
end

set_option maxRecDepth 100000 in
set_option maxHeartbeats 16000000 in
theorem lawMerged_any (A : Option Addr) (n c : Nat) (bs0 : List UInt8) (w : World) (ha : Rd w w.heap.size 1 A n (byts bs0)) :
    Calls Try.prog 4 #[.slice A n c] w fun e w' => e = .returned (.bool true) ∧ Below w.heap.size w w' := by
  by_cases hn : 3000 < n
  · go_enter Try.func4, Try.ntmps4
    go_wp2_with fail
    refine (a2Long_yes A none n c 0 0 _ (.inl hn)).mono ?_; rintro e w1 ⟨rfl, rfl⟩
    go_wp2
    go_ret
    exact ⟨rfl, b0 _⟩
  · go_enter Try.func4, Try.ntmps4
    go_wp2_with fail
    refine (a2Long_no A none n c 0 0 _ hn (by omega)).mono ?_; rintro e w1 ⟨rfl, rfl⟩
    go_wp2_with fail
    refine (A2Two_any A n c bs0 _ ha (by omega)).mono ?_
    rintro e w1 ⟨D, cd, gs, E, ce, ks, i, j, rfl, hg7, hk7, hgd, hkd, hij, hj2, hod, hoe, hb1⟩
    have HGD := Lib.hid hgd
    have HKD := Lib.hid hkd
    have hgL : (cards gs).length ≤ 40 := by rw [cards_length]; omega
    have hkL : (cards ks).length ≤ 40 := by rw [cards_length]; omega
    have HCG := Lib.hid (good_code2 hgd (by omega) (by omega) hgL hij hj2)
    have HCK := Lib.hid (good_code2 hkd (by omega) (by omega) hkL hij hj2)
    have HTG := Lib.hid (good_tot hgd (by omega) (by omega))
    have HTK := Lib.hid (good_tot hkd (by omega) (by omega))
    have TB := ba (b0 w1) (.cells #[.int .i64 (i : Int), .int .i64 (j : Int)] 27)
    have HT2 := Lib.hid (bs hb1 TB)
    have HOD2 := Lib.hid (hod.bs TB)
    have HOE2 := Lib.hid (hoe.bs TB)
    have kf0 := (show (w1.alloc (.cells #[.int .i64 (i : Int), .int .i64 (j : Int)] 27)).cell? ⟨w1.heap.size, 0, none⟩ = some (.int .i64 (i : Int)) from cell_new rfl rfl)
    have kf1 := (show (w1.alloc (.cells #[.int .i64 (i : Int), .int .i64 (j : Int)] 27)).cell? ⟨w1.heap.size, 1, none⟩ = some (.int .i64 (j : Int)) from cell_new rfl rfl)
    clear hgd hkd hb1 TB hod hoe
    go_wp2_with fail
    refine (spSortedBy_any D cd gs (cards gs) (i : Int) (j : Int) _ HOD2.out.rd rfl (by have := HTG.out; omega) HOD2.out.cap.1).mono ?_
    rw [HCG.out, sbRes_0 HCG.out]
    rintro e w3 ⟨XA, cx, xs, rfl, hx, hox, hb3⟩
    have HX := Lib.hid hx
    have HXL := Lib.hid (show xs.length = gs.length by rw [← cards_length xs, hx, sortedL_length, cards_length])
    have hxl : xs.length ≤ 7 := by have := HXL.out; omega
    have HGX := Lib.hid (show GoodD 2 (cards xs) by rw [hx]; exact good_srt HGD.out)
    have HTX := Lib.hid (good_tot HGX.out (by omega) (by omega))
    have HOX3 := Lib.hid hox
    have HOE3 := Lib.hid (HOE2.out.bs hb3)
    have HT3 := Lib.hid (bs HT2.out hb3)
    replace kf0 := cell_later hb3 kf0
    replace kf1 := cell_later hb3 kf1
    clear hx hox hb3
    go_wp2_with fail
    refine (spSortedBy_any E ce ks (cards ks) (i : Int) (j : Int) _ HOE3.out.rd rfl (by have := HTK.out; omega) HOE3.out.cap.1).mono ?_
    rw [HCK.out, sbRes_0 HCK.out]
    rintro e w4 ⟨YA, cy, ys, rfl, hy, hoy, hb4⟩
    have HY := Lib.hid hy
    have HYL := Lib.hid (show ys.length = ks.length by rw [← cards_length ys, hy, sortedL_length, cards_length])
    have hyl : ys.length ≤ 7 := by have := HYL.out; omega
    have HGY := Lib.hid (show GoodD 2 (cards ys) by rw [hy]; exact good_srt HKD.out)
    have HTY := Lib.hid (good_tot HGY.out (by omega) (by omega))
    have HOY4 := Lib.hid hoy
    have HOX4 := Lib.hid (HOX3.out.bs hb4)
    have HT4 := Lib.hid (bs HT3.out hb4)
    replace kf0 := cell_later hb4 kf0
    replace kf1 := cell_later hb4 kf1
    clear hy hoy hb4
    have HSX := Lib.hid (show (stepsL (cards xs) (i : Int) (j : Int) (cards xs).length).length = 0 by rw [HX.out]; exact good_steps HGD.out (by omega) (by omega) hgL hij hj2)
    have HSY := Lib.hid (show (stepsL (cards ys) (i : Int) (j : Int) (cards ys).length).length = 0 by rw [HY.out]; exact good_steps HKD.out (by omega) (by omega) hkL hij hj2)
    have HMC := Lib.hid (good_merge HGX.out HGY.out (by omega) (by omega) (by rw [cards_length, cards_length]; omega) hij hj2 HSX.out HSY.out)
    have HCU := Lib.hid (show codeK (cards (xs ++ ys)) (i : Int) (j : Int) = 0 by rw [cards_append]; exact good_code2 (good_app HGX.out HGY.out) (by omega) (by omega) (by rw [List.length_append, cards_length, cards_length]; omega) hij hj2)
    go_wp2_with fail
    refine (MergeDecks_any XA cx xs (cards xs) YA cy ys (cards ys) (i : Int) (j : Int) _ HOX4.out.rd rfl (by have := HTX.out; omega) HOX4.out.cap.1 HOY4.out.rd rfl (by have := HTY.out; omega) HOY4.out.cap.1).mono ?_
    rw [HMC.out, mgeR_0 HMC.out]
    rintro e w5 ⟨F, cf, fs, rfl, hfs, hof, hb5⟩
    have HFS := Lib.hid hfs
    have HOF := Lib.hid hof
    have HOX := Lib.hid (HOX4.out.bs hb5)
    have HOY := Lib.hid (HOY4.out.bs hb5)
    have HT5 := Lib.hid (bs HT4.out hb5)
    replace kf0 := cell_later hb5 kf0
    replace kf1 := cell_later hb5 kf1
    have HKF0 := Lib.hid kf0
    have HKF1 := Lib.hid kf1
    have HTF := Lib.hid (show fs.length + tot fs ≤ 840 by
      have e1 : (cards fs).length ≤ 40 := by rw [hfs, sortedL_length, List.length_append, cards_length, cards_length]; omega
      have hg : GoodD 2 (cards fs) := by rw [hfs]; exact good_srt (good_app HGX.out HGY.out)
      exact good_tot hg (by omega) (by rw [cards_length] at e1; exact e1))
    clear hfs hof hb5
    obtain ⟨us, hus⟩ : ∃ us, us = xs ++ ys := ⟨_, rfl⟩
    have HUS := Lib.hid hus
    have HUL := Lib.hid (show xs.length + ys.length = us.length by rw [hus, List.length_append])
    have HUH := Lib.hid (show heads xs ++ heads ys = heads us by rw [hus, heads_append])
    have HUT := Lib.hid (show us.length + tot us ≤ 1048576 by rw [hus, List.length_append, tot_append]; have := HTX.out; have := HTY.out; omega)
    rw [← hus] at HCU
    clear hus
    go_wp2_with fail
    go_cut [12, 13] (fun s12 s13 wx => ∃ Q cq qs, s12 = .slice Q (List.length qs) cq ∧ s13 = .int .i64 0 ∧ cards qs = sortedL (cards us) (i : Int) (j : Int) ∧ RdD wx wx.heap.size Q qs ∧ Below w5.heap.size w5 wx)
    case first =>
      obtain ⟨j0, hj, hj0, hj1, hj2⟩ := info_parts info_cardD
      have rx := HOX.out.rd
      have ka0 := cell_alloc kf0 (.cells #[] 37)
      have ka1 := cell_alloc kf1 (.cells #[] 37)
      go_region_law (first
          | (refine step_apy rfl (.tmp 47) (.tmp 48) 24 rfl w5.heap.size 37 j0 _ 1 24 Try.underlying24 hj hj0 hj1 hj2 rfl (by omega) (some ⟨w5.heap.size, 0, none⟩) 0 0 [] _ (by simp [Act.eval, Act.put]) (by first | exact own_lit w5 #[] 0 rfl (Nat.le_refl _) (by omega) rfl | exact own_lit w5.drew #[] 0 rfl (Nat.le_refl _) (by omega) rfl) w5.heap.size XA xs.length cx (heads xs) (by simp [Act.eval, Act.put]) (rx.row.alloc (Nat.le_refl _) _) (heads_one xs) (by omega) (by omega) (by simp) xs.length (by omega) (heads xs) rfl ?_; intro G1 c1 w6 hown6 hb6; have B6 : Below w5.heap.size w5 w6 := ⟨hb6.os, hb6.tape, hb6.output, Nat.le_trans (by simp) hb6.size, fun k hk => (hb6.block k hk).trans ((ba (b0 w5) (.cells #[] 37)).block k hk)⟩; have kb0 := cell_later B6 HKF0.out; have kb1 := cell_later B6 HKF1.out)
          | (refine step_apy rfl (.tmp 49) (.tmp 50) 24 rfl w5.heap.size 37 j0 _ 1 24 Try.underlying24 hj hj0 hj1 hj2 rfl (by omega) G1 xs.length c1 (heads xs) _ (by simp [Act.eval, Act.put]) hown6 w6.heap.size YA ys.length cy (heads ys) (by simp [Act.eval, Act.put]) (HOY.out.rd.up B6).row (heads_one ys) (by omega) (by omega) B6.size us.length HUL.out (heads us) HUH.out ?_; intro G2 c2 w7 hown7 hb7; have B7 : Below w5.heap.size w5 w7 := B6.trans ⟨hb7.os, hb7.tape, hb7.output, hb7.size, hb7.block⟩; have kd0 := cell_later B7 HKF0.out; have kd1 := cell_later B7 HKF1.out)
          | (go_simp; go_at_call 23; refine (spSortedBy_any G2 c2 us (cards us) (i : Int) (j : Int) _ (by first | exact rdd_join2 (HOX.out.rd.up B7) (HOY.out.rd.up B7) HUS.out (Rd.own hown7) (Nat.le_refl _) | exact (rdd_join2 (HOX.out.rd.up B7) (HOY.out.rd.up B7) HUS.out (Rd.own hown7) (Nat.le_refl _)).drew | exact (rdd_join2 (HOX.out.rd.up B7) (HOY.out.rd.up B7) HUS.out (Rd.own hown7) (Nat.le_refl _)).drewN _) rfl HUT.out (own_cap hown7).1).mono ?_; rw [HCU.out, sbRes_0 HCU.out]; rintro e w8 ⟨Q, cq, qs, rfl, hq, hoq, hb8⟩; have B8 : Below w5.heap.size w5 w8 := B7.trans ((⟨hb8.os, hb8.tape, hb8.output, hb8.size, hb8.block⟩ : Below w7.heap.size w7 w8).mono B7.size)))
      all_goals go_wp2_with fail
      all_goals go_meet
      all_goals exact ⟨Q, cq, qs, rfl, rfl, hq, hoq.rd, B8⟩
    obtain ⟨Q, cq, qs, rfl, rfl, hqs, hrq, hb6⟩ := hcut
    obtain ⟨w6, hw6⟩ : ∃ x : World, x = wc := ⟨_, rfl⟩
    subst hw6
    have HFQ := Lib.hid (show cards fs = cards qs by rw [HFS.out, hqs, HUS.out, cards_append])
    have HRQ := Lib.hid hrq
    have HOF6 := Lib.hid (HOF.out.bs hb6)
    have HOX6 := Lib.hid (HOX.out.bs hb6)
    have HOY6 := Lib.hid (HOY.out.bs hb6)
    have HT6 := Lib.hid (bs HT5.out hb6)
    replace kf0 := cell_later hb6 HKF0.out
    replace kf1 := cell_later hb6 HKF1.out
    clear hqs hrq hb6
    go_wp2_with fail
    refine (spSameDeck_eq F Q cf cq fs qs _ HFQ.out HOF6.out.rd HRQ.out (by have := HTF.out; omega)).mono ?_
    rintro e w7 ⟨rfl, hb7⟩
    have HOX7 := Lib.hid (HOX6.out.bs hb7)
    have HOY7 := Lib.hid (HOY6.out.bs hb7)
    have HT7 := Lib.hid (bs HT6.out hb7)
    have HKG0 := Lib.hid (cell_later hb7 kf0)
    have HKG1 := Lib.hid (cell_later hb7 kf1)
    clear hb7 kf0 kf1
    go_wp2
    go_loopw [14] (fun x wr => ∃ k : Nat, k ≤ ys.length ∧ x = .int .i64 k ∧ Below w7.heap.size w7 wr) (fun x _ => ys.length - (intOf x).toNat)
    case atStart => exact ⟨0, Nat.zero_le _, rfl, b0 _⟩
    case round =>
      obtain ⟨wo, rfl⟩ : ∃ wo : World, wo = wr := ⟨_, rfl⟩
      obtain ⟨k, hk, rfl, hbw⟩ := hrel
      by_cases hlt : k < ys.length
      · have i1 : (k : Int) < (ys.length : Int) := by omega
        obtain ⟨hd, hhd⟩ : ∃ hd, hd = ys[k] := ⟨_, rfl⟩
        have HGK := Lib.hid (show GoodX 2 hd.xs by rw [hhd]; exact HGY.out ys[k].xs (List.mem_map.2 ⟨ys[k], List.getElem_mem hlt, rfl⟩))
        have HM1 := Lib.hid (show mgeC (cards xs) [hd.xs] (i : Int) (j : Int) = 0 from good_merge HGX.out (by intro x hx; rw [List.mem_singleton] at hx; rw [hx]; exact HGK.out) (by omega) (by omega) (by rw [cards_length]; simp; omega) hij hj2 HSX.out (by
          rw [show [hd.xs].length = 1 from rfl, stepsL_one]
          rfl))
        have HDL := Lib.hid (show hd.xs.length ≤ 1048576 by have := HGK.out.1; omega)
        have HXB := Lib.hid (show xs.length + tot xs ≤ 1048576 by have := HTX.out; omega)
        have rX := HOX7.out.rd.up hbw
        have hcx := HOX7.out.cap.1
        have rY := HOY7.out.rd.up hbw
        obtain ⟨b1, o1, hYA, _, hcY⟩ := rY.at_ hlt
        have d1 := hcY k hlt
        have rc := rY.card_at hlt
        have hca := rY.cap_at hlt
        rw [← hhd] at d1 rc hca
        have kf0 := cell_later hbw HKG0.out
        have kf1 := cell_later hbw HKG1.out
        have HYE := Lib.hid hYA
        subst hYA
        clear hcY rY hhd
        have HIC := Lib.hid (fun w x y => InsertCard_any XA cx xs (cards xs) hd.a hd.c hd.xs (i : Int) (j : Int) w x rfl HXB.out hcx y HDL.out hca)
        rw [HM1.out] at HIC
        go_wp2_with fail
        go_region_held3 (fun w' => w'.cell? ⟨w1.heap.size, 0, none⟩ = some (.int .i64 (i : Int)) ∧ w'.cell? ⟨w1.heap.size, 1, none⟩ = some (.int .i64 (j : Int)) ∧ w'.cell? ⟨b1, o1 + k, none⟩ = some (.slice hd.a hd.xs.length hd.c)) (first | exact ⟨kf0, kf1, d1⟩ | go_keep)
          ((go_at_call 26; refine (HIC.out _ ?_ ?_).mono ?_; (first | exact rX | exact rX.drew | exact rX.drewN _); (first | exact rc | exact rc.drew | exact rc.drewN _); rintro e w8 ⟨P1, c1, g1, rfl, hg1, ho1, hb8⟩; have hb8 : Below wo.heap.size wo w8 := ⟨hb8.os, hb8.tape, hb8.output, hb8.size, hb8.block⟩; replace kf0 := cell_later hb8 kf0; replace kf1 := cell_later hb8 kf1; replace d1 := cell_later hb8 d1))
        all_goals
          have HG1 := Lib.hid hg1
          have HO1 := Lib.hid ho1
          have HB8 := Lib.hid (bs hbw hb8)
          have rX8 := rX.up hb8
          have rc8 := rc.up hb8
          have HMD := Lib.hid (show ∀ (g : Nat) (W : World), RdD W W.heap.size XA xs → W.cell? ⟨g, 0, none⟩ = some (.slice hd.a hd.xs.length hd.c) → Rd W W.heap.size 1 hd.a hd.xs.length (ints hd.xs) → Calls Try.prog 27 #[.slice XA xs.length cx, .slice (some ⟨g, 0, none⟩) 1 1, .agg #[.int .i64 (i : Int), .int .i64 (j : Int)]] W fun e w' => ∃ F cf gs, e = .returned (.tuple #[.slice F gs.length cf, .int .i64 0]) ∧ cards gs = mgeR (cards xs) [hd.xs] (i : Int) (j : Int) ∧ ObD w' W.heap.size w'.heap.size 37 2 F cf gs ∧ Below W.heap.size W w' from fun g W x y z => by
            have := spMergeDecks_any XA cx xs (cards xs) (some ⟨g, 0, none⟩) 1 [⟨hd.a, hd.c, hd.xs⟩] [hd.xs] (i : Int) (j : Int) W x rfl HXB.out hcx (rdd_card y z hca) rfl (by simp [tot]; have := HGK.out.1; omega) (by simp)
            rwa [HM1.out] at this)
          have hz1 : w1.heap.size < w8.heap.size := World.block_lt_of_cell? _ _ kf0
          have hz2 : b1 < w8.heap.size := World.block_lt_of_cell? _ _ d1
          clear hg1 ho1 hb8 hbw rX rc HIC
          go_wp2_with fail
          go_region_held3 (fun w' => w'.cell? ⟨w1.heap.size, 0, none⟩ = some (.int .i64 (i : Int)) ∧ w'.cell? ⟨w1.heap.size, 1, none⟩ = some (.int .i64 (j : Int)) ∧ w'.cell? ⟨b1, o1 + k, none⟩ = some (.slice hd.a hd.xs.length hd.c)) (first | exact ⟨kf0, kf1, d1⟩ | exact ⟨cell_alloc kf0 _, cell_alloc kf1 _, cell_alloc d1 _⟩ | go_keep)
            ((go_at_call 27; refine (HMD.out w8.heap.size _ ?_ ?_ ?_).mono ?_; (first | exact rX8.a1 _ | exact (rX8.a1 _).drew | exact (rX8.a1 _).drewN _ | exact rX8.drew.a1 _); (exact cell_new rfl rfl); (first | exact rc8.a1 _ | exact (rc8.a1 _).drew | exact (rc8.drew).a1 _); rintro e w9 ⟨P2, c2, g2, rfl, hg2, ho2, hb9⟩; have B9 : Below w8.heap.size w8 w9 := (by first | exact bs (ba (b0 w8) _) hb9 | exact bs (ba (b0 w8) _).drew hb9 | exact bs (ba (b0 w8).drew _) hb9); replace kf0 := cell_later B9 kf0; replace kf1 := cell_later B9 kf1; replace d1 := cell_later B9 d1))
          all_goals
            have HGG := Lib.hid (show cards g1 = cards g2 by rw [HG1.out, hg2])
            have HG2B := Lib.hid (mgeR_bnd _ _ _ _ HG1.out)
            have HO2 := Lib.hid ho2
            have HO19 := Lib.hid (HO1.out.bs B9)
            have HB9 := Lib.hid (bs HB8.out B9)
            clear hg2 ho2 hb9 B9 kf0 kf1 d1 rX8 rc8 HMD
            go_wp2_with fail
            refine (spSameDeck_eq P1 P2 c1 c2 g1 g2 _ HGG.out HO19.out.rd HO2.out.rd (by have := HG2B.out; omega)).mono ?_
            rintro e w10 ⟨rfl, hb10⟩
            have HB10 := Lib.hid (bs HB9.out hb10)
            clear hb10
            go_wp2
            go_roundw
            case rel =>
              have P : ∃ q : Nat, q ≤ ys.length ∧ (Value.int .i64 ((k : Int) + 1)) = .int .i64 q ∧ Below w7.heap.size w7 w10 := ⟨k + 1, by omega, by go_num, HB10.out⟩
              first | exact P | exact ⟨_, P, rfl⟩ | exact ⟨_, _, P, rfl, rfl⟩ | exact ⟨_, _, _, P, rfl, rfl, rfl⟩ | exact ⟨_, _, _, _, P, rfl, rfl, rfl, rfl⟩ | exact ⟨_, _, _, _, _, P, rfl, rfl, rfl, rfl, rfl⟩ | exact ⟨_, _, _, _, _, _, P, rfl, rfl, rfl, rfl, rfl, rfl⟩ | exact ⟨_, _, _, _, _, _, _, P, rfl, rfl, rfl, rfl, rfl, rfl, rfl⟩ | exact ⟨_, _, _, _, _, _, _, _, P, rfl, rfl, rfl, rfl, rfl, rfl, rfl, rfl⟩
            case measure => (simp [intOf]; try omega)
      · obtain rfl : k = ys.length := by omega
        go_wp2
        go_ret
        exact ⟨rfl, bs HT7.out hbw⟩

set_option maxRecDepth 100000 in
theorem lawMerged_lifted (os : Os) (started : os.Started) (H : Type) (enc : TypeId × Value → H) :
    ReturnsInHanded {} Try.checked os 4 .any (Rows.fnMergedSpec.pre6 enc Try.prog Try.f4 Rows.fnMergedRow.domain false) (Rows.fnMergedSpec.post enc Try.prog Try.f4 false true false false) := by
  refine returnsInHanded_of_change (C := Try.checked) lawOwn started (by kernel_rfl) Try.func4
    (ChangeSpec.witness6 (enc := enc) (C := Try.checked) false ⟨#[], #[.slice none 0 0], []⟩ 8 (by kernel_rfl) (by kernel_rfl) (by kernel_rfl) (by kernel_rfl)) ?_
  intro W base args ds gs before hval0 hW _ _
  have hval : ∀ (j : Nat) t v, Try.f4.params[j]? = some t → args[j]? = some v → Value.okWide Try.prog W .any base t v := hval0
  clear hval0
  have hW0 : DataW.Whole enc Try.prog Try.f4.params.toList Rows.fnMergedSpec.vars false W args.toList ds gs before := hW
  clear hW
  have hW := hW0
  obtain ⟨p, q, hA, hV, _, _, _⟩ := hW
  rw [Try.params4] at hA hval
  obtain ⟨v0, vs0, d0, ds0, p0, q0, hargs, rfl, rfl, h0, hA0⟩ := trodAll_cons hA
  obtain ⟨rfl, rfl, rfl⟩ := trodAll_nil hA0
  have hargs2 : args = #[v0] := by cases args; simp_all
  clear hargs
  subst hargs2
  obtain ⟨A0, c0, bs0, rfl, hc0, hm0, r0⟩ := in_bytes Try.underlying22 Try.underlying5 (by kernel_rfl) (hval 0 22 v0 rfl rfl) h0
  have hcall := lawMerged_any A0 _ c0 bs0 W r0
  refine hcall.mono fun e W' ⟨he, hb⟩ => ⟨_, he, ?_⟩
  exact post_law (f := Try.f4) (s := Rows.fnMergedSpec) hW0 rfl (tb := 4) rfl Try.underlying4 rfl lawLaid (by kernel_rfl) hb

theorem fnMerged_holds : Rows.FnMergedSaid :=
  OpenClaim.holds_of_wide 4 Try.f4 rfl rfl rfl rfl rfl rfl rfl ⟨rfl, rfl, rfl, rfl, rfl⟩ rfl rfl rfl rfl rfl (by kernel_rfl) Try.func4 (by kernel_rfl)
    (of_decide_eq_true (by kernel_rfl)) (by unfold Func.isWrapper; first | (rw [if_pos (by decide +kernel)]; kernel_rfl) | (rw [if_neg (by decide +kernel)]; exact ⟨rfl, rfl⟩))
    (fun os started H enc _ => lawMerged_lifted os started H enc)
#print axioms fnMerged_holds
end Go.Proofs.Ytdppmlchabogaaa
