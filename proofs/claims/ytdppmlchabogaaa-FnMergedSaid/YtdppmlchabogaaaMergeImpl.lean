/- MergeDecks; in the program. -/
import Derived.Test.YtdppmlchabogaaaMergeLaw
import Derived.Test.YtdppmlchabogaaaSortedBy
import Derived.Test.YtdppmlchabogaaaMatchAll
import Derived.Deep.RegionHeld3
namespace Go.Proofs.Ytdppmlchabogaaa
open Go.RowKit

section
variable {P : Program}
/-- 'append(out, list...)' at a step of a region that draws its order. -/
theorem step_aps {ops : Array Oper} {o : Oper} {a : Act} {K : Act → World → Prop} {Q : Exit → Act → World → Prop} {E : Prop} (hgd : o.guard = none) (s x : Operand) (t : TypeId)
    (ho : o.op = .call { callee := .builtin .append, args := #[s, x], argTypes := #[t, t] })
    (base : Nat) (e : TypeId) (i : TypeInfo) (z : Value) (size bytes : Nat) (ht : P.underlying t = some (.slice e)) (hi : P.info? e = some i) (hz : i.zero = some z)
    (hsize : i.size = size) (hby : i.bytes = bytes) (hzs : z.cells.size = size) (hsz : 0 < size)
    (A : Option Addr) (n c : Nat) (xs : List Value) (w : World) (hs : a.eval s = .slice A n c) (hown : w.ownsRow base e size (.slice A n c) n xs) (B : Nat) (A' : Option Addr) (m c' : Nat) (news : List Value) (hx : a.eval x = .slice A' m c') (hr : Rd w B size A' m news) (h1 : ∀ u ∈ news, u.oneCell' = true)
    (h63 : n + m ≤ 1099511627776) (hbytes : bytes ≤ 128) (hbase : base ≤ w.heap.size)
    (h : ∀ G cap w', w'.ownsRow base e size (.slice G (n + m) cap) (n + m) (xs ++ news) → Below base w w' → w.grownBy w' (Value.slice A n c).ownBlock →
      K (a.put o.dst (.slice G (n + m) cap)) w') : if Region.wanted o (yielded ops a.tmps) = true then Oper.wp P o a w K Q else E := by
  have hw : Region.wanted o (yielded ops a.tmps) = true := by simp [Region.wanted, hgd]
  rw [if_pos hw]
  obtain ⟨G, cap, w', hrun, h2, h3⟩ := run_append_src (P := P) base t o.type e i z size bytes ht hi hz hsize hby hzs hsz A n c xs hown B A' m c' news hr h1 h63 hbytes hbase
  unfold Oper.wp execOp
  simp only [ho, resolve, invoke, builtin, Sem.run_bind, Sem.run_pure, Result.andThen_ok, List.map_toArray, List.map_cons, List.map_nil, hs, hx, hrun]
  exact h G cap w' h2 ((Below.refl _ _).grown h3 hbase fun k hk => (hown.lt k hk).1) h3
end
theorem sortedBy_n (n : Nat) (D : Option Addr) (c : Nat) (hs : List Hd) (i j : Nat) (w : World) (hn : hs.length = n) (ha : RdD w w.heap.size D hs) (hok : deckOk (cards hs) = true) (hij : i < j) (hj : j ≤ deckW (cards hs)) (hl : hs.length + tot hs ≤ 1048576) :
    Calls Try.prog 117 #[.slice D n c, .agg #[.int .i64 (i : Int), .int .i64 (j : Int)]] w fun e w' => ∃ E ce gs, e = .returned (.slice E gs.length ce) ∧ cards gs = sortedL (cards hs) (i : Int) (j : Int) ∧ ObD w' w.heap.size w'.heap.size 37 2 E ce gs ∧ Below w.heap.size w w' := by
  subst hn
  exact sortedBy_any D c hs i j w ha hok hij hj hl
/-- A deck of the call's own, to whose row another deck's headers were appended. -/
theorem rdd_join {w w' : World} {lo hi : Nat} {D : Option Addr} {c : Nat} {gs ks : List Hd} {E : Option Addr} (h : ObD w lo hi 37 2 D c gs) (he : RdD w lo E ks) {G : Option Addr} {cap n : Nat} (hn : gs.length + ks.length = n)
    (hrow : w'.ownsRow lo 37 1 (.slice G n cap) n (heads gs ++ heads ks)) (hlo0 : lo ≤ w.heap.size) (hb : Below lo w w') (hg : w.grownBy w' (Value.slice D gs.length c).ownBlock) : RdD w' w'.heap.size G (gs ++ ks) := by
  have hz := hg.size
  have hlo : lo ≤ w'.heap.size := Nat.le_trans hlo0 hz
  refine ⟨?_, ?_, ?_⟩
  · rw [heads_append, List.length_append, hn]
    exact Rd.own hrow
  · intro x hx
    rcases List.mem_append.1 hx with hx | hx
    · exact ((h.card x hx).kept hg (own_ne (h.card x hx).1 h.row.1 (by decide))).rd
    · exact ((he.card x hx).below hb).more hlo
  · intro x hx
    rcases List.mem_append.1 hx with hx | hx
    · exact (own_cap (h.card x hx).1).1
    · exact he.cap x hx

set_option maxRecDepth 20000 in
set_option maxHeartbeats 8000000 in
theorem MergeDecks_any (D : Option Addr) (c : Nat) (hs : List Hd) (L : List (List Int)) (E : Option Addr) (ce : Nat) (ks : List Hd) (M : List (List Int)) (a b : Int) (w : World) (hd : RdD w w.heap.size D hs) (hL : cards hs = L) (hl : hs.length + tot hs ≤ 1048576) (hc : hs.length ≤ c) (he : RdD w w.heap.size E ks) (hM : cards ks = M) (hl' : ks.length + tot ks ≤ 1048576) (hc' : ks.length ≤ ce) :
    Calls Try.prog 24 #[.slice D hs.length c, .slice E ks.length ce, .agg #[.int .i64 a, .int .i64 b]] w fun e w' => ∃ F cf gs, e = .returned (.tuple #[.slice F gs.length cf, .int .i64 (mgeC L M a b)]) ∧ cards gs = mgeR L M a b ∧ ObD w' w.heap.size w'.heap.size 37 2 F cf gs ∧ Below w.heap.size w w' := by
  obtain ⟨q0, hq0, hq1, hq2, hq3⟩ := info_parts info_cardD
  subst hL hM
  have HCA := Lib.hid (cards_length hs)
  have HCB := Lib.hid (cards_length ks)
  obtain ⟨W, hW⟩ : ∃ W, W = (w.alloc (.cells #[.int .i64 a, .int .i64 b] 27)).alloc (.cells #[.slice D hs.length c, .slice E ks.length ce] 24) := ⟨_, rfl⟩
  have T0 : Below w.heap.size w W := by rw [hW]; exact ba (ba (b0 w) _) _
  have rd : RdD W W.heap.size D hs := by rw [hW]; exact (hd.a1 _).a1 _
  have re : RdD W W.heap.size E ks := by rw [hW]; exact (he.a1 _).a1 _
  have k1 : W.cell? ⟨w.heap.size, 0, none⟩ = some (.int .i64 a) := by rw [hW]; exact cell_alloc (cell_new rfl rfl) _
  have k2 : W.cell? ⟨w.heap.size, 1, none⟩ = some (.int .i64 b) := by rw [hW]; exact cell_alloc (cell_new rfl rfl) _
  have k5 : W.cell? ⟨w.heap.size + 1, 0, none⟩ = some (.slice D hs.length c) := by rw [hW]; exact cell_new (by simp) rfl
  have k6 : W.cell? ⟨w.heap.size + 1, 1, none⟩ = some (.slice E ks.length ce) := by rw [hW]; exact cell_new (by simp) rfl
  have HW := Lib.hid hW
  have HWS := Lib.hid (show w.heap.size + 2 = W.heap.size by rw [hW]; simp)
  have HCO := Lib.hid (collate2_any a b (w.heap.size + 1) D E c ce hs ks W k5 k6 rd re hc hc' hl hl')
  clear hW hd he k5 k6
  by_cases hz : colC [cards hs, cards ks] true [] a b = 0
  · obtain ⟨o1, o2, f1, f2, v1, v2⟩ := colC_two hz
    obtain ⟨i, j, rfl, rfl, hij, hj1⟩ := fieldOk_nat f1
    have hj2 : j ≤ deckW (cards ks) := by have := fieldOk_true f2; omega
    have HZ := Lib.hid hz
    have HO1 := Lib.hid o1
    have HO2 := Lib.hid o2
    have e0 : colC [cards hs, cards ks] true [] (i : Int) (j : Int) = 0 := hz
    have HE0 := Lib.hid e0
    clear hz f1 f2 v1 v2
    rcases Bool.eq_false_or_eq_true (clashB (cards hs) (cards ks)) with hcl | hcl
    · have HC := Lib.hid (mgeC_9 HZ.out hcl)
      have HR := Lib.hid (mgeR_1 (L := cards hs) (M := cards ks) (a := (i : Int)) (b := (j : Int)) (by rw [HC.out]; decide))
      have hcl' := hcl
      unfold clashB at hcl'
      simp only [Bool.and_eq_true, decide_eq_true_eq, cards_length] at hcl'
      obtain ⟨⟨x1, x2⟩, x3⟩ := hcl'
      have i1 : (0 : Int) < (hs.length : Int) := by omega
      have i2 : (0 : Int) < (ks.length : Int) := by omega
      have i3 : ((deckW (cards hs) : Int) != (deckW (cards ks) : Int)) = true := bne_t (by omega)
      clear hcl x1 x2 x3 o1 o2
      go_enter Try.func24, Try.ntmps24
      go_wp2_with fail
      rw [← HW.out]
      refine HCO.out.mono ?_; rintro e w1 ⟨rfl, hb1⟩
      have rd1 := rd.up hb1
      have re1 := re.up hb1
      have T1 := bs T0 hb1
      clear k1 k2 rd re hb1
      go_wp2_with fail
      refine (deckColumns_any D c hs _ rd1 hl).mono ?_; rintro e w2 ⟨rfl, hb2⟩
      go_wp2_with fail
      refine (deckColumns_any E ce ks _ (re1.up hb2) hl').mono ?_; rintro e w3 ⟨rfl, hb3⟩
      go_wp2
      go_ret2
      exact ⟨none, 0, [], ret_dd HC.out.symm, HR.out.symm, ObD.nil _ _ _ _ _, bs (bs T1 hb2) hb3⟩
    · have HCLF := Lib.hid hcl
      rcases (show (¬ 0 < hs.length) ∨ (0 < hs.length ∧ ¬ 0 < ks.length) ∨ (0 < hs.length ∧ 0 < ks.length ∧ deckW (cards hs) = deckW (cards ks)) from by
        unfold clashB at hcl
        rw [cards_length, cards_length] at hcl
        by_cases y1 : 0 < hs.length
        · by_cases y2 : 0 < ks.length
          · right; right; refine ⟨y1, y2, ?_⟩; simpa [y1, y2] using hcl
          · exact .inr (.inl ⟨y1, y2⟩)
        · exact .inl y1) with y | ⟨y1, y2⟩ | ⟨y1, y2, y3⟩
      · have i1 : ¬ (0 : Int) < (hs.length : Int) := by omega
        clear hcl
        by_cases s1 : (stepsL (cards hs) (i : Int) (j : Int) (cards hs).length).length = 0
        · have HS1 := Lib.hid (show true = decide ((stepsL (cards hs) (i : Int) (j : Int) (cards hs).length).length = 0) by rw [decide_eq_true s1])
          by_cases s2 : (stepsL (cards ks) (i : Int) (j : Int) (cards ks).length).length = 0
          · have HS2 := Lib.hid (show true = decide ((stepsL (cards ks) (i : Int) (j : Int) (cards ks).length).length = 0) by rw [decide_eq_true s2])
            by_cases h40 : 40 < hs.length + ks.length
            · have HC := Lib.hid (mgeC_5 HZ.out HCLF.out ⟨s1, s2⟩ (by rw [HCA.out, HCB.out]; exact h40))
              have HR := Lib.hid (mgeR_1 (L := cards hs) (M := cards ks) (a := (i : Int)) (b := (j : Int)) (by rw [HC.out]; decide))
              have i8 : (40 : Int) < (hs.length : Int) + (ks.length : Int) := by omega
              clear s1 s2 h40 o1 o2
              go_enter Try.func24, Try.ntmps24
              go_wp2_with fail
              rw [← HW.out]
              refine HCO.out.mono ?_; rintro e w1 ⟨rfl, hb1⟩
              have q1 := cell_later hb1 k1
              have q2 := cell_later hb1 k2
              have rd1 := rd.up hb1
              have re1 := re.up hb1
              have T1 := bs T0 hb1
              clear k1 k2 rd re hb1
              go_wp2_with fail
              refine (isAscending_any D c hs i j true _ rd1 HO1.out hij hj1 hl HS1.out).mono ?_; rintro e w2 ⟨rfl, hb2⟩
              replace q1 := cell_later hb2 q1
              replace q2 := cell_later hb2 q2
              have rd2 := rd1.up hb2
              have re2 := re1.up hb2
              have T2 := bs T1 hb2
              clear rd1 re1 hb2
              go_wp2_with fail
              refine (isAscending_any E ce ks i j true _ re2 HO2.out hij hj2 hl' HS2.out).mono ?_; rintro e w3 ⟨rfl, hb3⟩
              go_wp2
              go_ret2
              exact ⟨none, 0, [], ret_dd HC.out.symm, HR.out.symm, ObD.nil _ _ _ _ _, bs T2 hb3⟩
            · have HC := Lib.hid (mgeC_0 HZ.out HCLF.out ⟨s1, s2⟩ (by rw [HCA.out, HCB.out]; exact h40))
              have HR := Lib.hid (mgeR_0 HC.out)
              have i8 : ¬ (40 : Int) < (hs.length : Int) + (ks.length : Int) := by omega
              have HAP := Lib.hid (deckOk_append o1 o2 HCLF.out (by rw [HCA.out, HCB.out]; omega))
              have hsum : hs.length + ks.length ≤ 40 := by omega
              have HTS := Lib.hid (show tot hs ≤ 1000 ∧ tot ks ≤ 1000 by
                have e1 := deckOk_sum o1
                have e2 := deckOk_sum o2
                rw [← tot_of_cards (gs := hs) rfl] at e1
                rw [← tot_of_cards (gs := ks) rfl] at e2
                omega)
              clear s1 s2 h40 o1 o2
              go_enter Try.func24, Try.ntmps24
              go_wp2_with fail
              rw [← HW.out]
              refine HCO.out.mono ?_; rintro e w1 ⟨rfl, hb1⟩
              have q1 := cell_later hb1 k1
              have q2 := cell_later hb1 k2
              have rd1 := rd.up hb1
              have re1 := re.up hb1
              have T1 := bs T0 hb1
              clear k1 k2 rd re hb1
              go_wp2_with fail
              refine (isAscending_any D c hs i j true _ rd1 HO1.out hij hj1 hl HS1.out).mono ?_; rintro e w2 ⟨rfl, hb2⟩
              replace q1 := cell_later hb2 q1
              replace q2 := cell_later hb2 q2
              have rd2 := rd1.up hb2
              have re2 := re1.up hb2
              have T2 := bs T1 hb2
              clear rd1 re1 hb2
              go_wp2_with fail
              refine (isAscending_any E ce ks i j true _ re2 HO2.out hij hj2 hl' HS2.out).mono ?_; rintro e w3 ⟨rfl, hb3⟩
              have q3 := cell_later hb3 q1
              have q4 := cell_later hb3 q2
              have rd3 := rd2.up hb3
              have re3 := re2.up hb3
              have T3 := bs T2 hb3
              have hz3 := T3.size
              have hz3' : w.heap.size < w3.heap.size := World.block_lt_of_cell? _ _ q3
              clear q1 q2 rd2 re2 hb3 T2
              go_wp2_with fail
              go_region_held3 (fun w' => w'.cell? ⟨w.heap.size, 0, none⟩ = some (.int .i64 (i : Int)) ∧ w'.cell? ⟨w.heap.size, 1, none⟩ = some (.int .i64 (j : Int))) (first | exact ⟨q3, q4⟩ | go_keep)
                (first
                  | (go_at_call 130; refine (newDeck_any D c hs _ ?_ hl).mono ?_; (first | exact rd3 | exact rd3.drew | exact rd3.drewN _); rintro e w5 ⟨D5, c5, g5, rfl, hcc5, ho5, hb5⟩; have hb5 : Below w3.heap.size w3 w5 := ⟨hb5.os, hb5.tape, hb5.output, hb5.size, hb5.block⟩; replace q3 := cell_later hb5 q3; replace q4 := cell_later hb5 q4; have HC5 := Lib.hid hcc5; have hlen5 : g5.length ≤ 40 := (by have := (cards_same hcc5).1; omega); have re5 := re3.below hb5; clear hcc5)
                  | (refine step_aps rfl (.tmp 53) (.tmp 54) 24 rfl w3.heap.size 37 q0 _ 1 24 Try.underlying24 hq0 hq1 hq2 hq3 rfl (by omega) D5 g5.length c5 (heads g5) _ rfl ho5.row.1 w3.heap.size E ks.length ce (heads ks) rfl re5.row (heads_one ks) (by omega) (by omega) hb5.size ?_; intro G6 cap w6 hown6 hb6 hg6; replace q3 := (hb6.cell (p := ⟨w.heap.size, 0, none⟩) hz3').trans q3; replace q4 := (hb6.cell (p := ⟨w.heap.size, 1, none⟩) hz3').trans q4)
                  | (go_at_call 117; refine (sortedBy_n (g5.length + ks.length) _ _ (g5 ++ ks) i j _ (List.length_append ..) ?_ ?_ hij ?_ ?_).mono ?_; (first | exact rdd_join ho5 re5 rfl hown6 hb5.size hb6 hg6 | exact (rdd_join ho5 re5 rfl hown6 hb5.size hb6 hg6).drew); (rw [cards_append, HC5.out]; exact HAP.out.1); (rw [cards_append, HC5.out]; exact HAP.out.2 j hj1 hj2); (rw [List.length_append, tot_append, tot_cards HC5.out]; have := HTS.out; omega); rintro e w7 ⟨F7, cf7, g7, rfl, hc7, ho7, hb7⟩; have hb7 : Below w6.heap.size w6 w7 := ⟨hb7.os, hb7.tape, hb7.output, hb7.size, hb7.block⟩; replace q3 := cell_later hb7 q3; replace q4 := cell_later hb7 q4))
              go_wp2
              go_ret2
              have HC7 := Lib.hid hc7
              exact ⟨F7, cf7, g7, ret_dd HC.out.symm, by rw [HR.out, hc7, cards_append, HC5.out], ho7.mono (Nat.le_trans hz3 (Nat.le_trans hb5.size hg6.size)) (Nat.le_refl _), ((T3.trans (hb5.mono hz3)).trans (hb6.mono hz3)).trans (hb7.mono (Nat.le_trans hz3 (Nat.le_trans hb5.size hg6.size)))⟩
          · have HS2 := Lib.hid (show false = decide ((stepsL (cards ks) (i : Int) (j : Int) (cards ks).length).length = 0) by rw [decide_eq_false s2])
            have HC := Lib.hid (mgeC_6 HZ.out HCLF.out (fun h => s2 h.2))
            have HR := Lib.hid (mgeR_1 (L := cards hs) (M := cards ks) (a := (i : Int)) (b := (j : Int)) (by rw [HC.out]; decide))
            clear s1 s2 o1 o2
            go_enter Try.func24, Try.ntmps24
            go_wp2_with fail
            rw [← HW.out]
            refine HCO.out.mono ?_; rintro e w1 ⟨rfl, hb1⟩
            have q1 := cell_later hb1 k1
            have q2 := cell_later hb1 k2
            have rd1 := rd.up hb1
            have re1 := re.up hb1
            have T1 := bs T0 hb1
            clear k1 k2 rd re hb1
            go_wp2_with fail
            refine (isAscending_any D c hs i j true _ rd1 HO1.out hij hj1 hl HS1.out).mono ?_; rintro e w2 ⟨rfl, hb2⟩
            replace q1 := cell_later hb2 q1
            replace q2 := cell_later hb2 q2
            have rd2 := rd1.up hb2
            have re2 := re1.up hb2
            have T2 := bs T1 hb2
            clear rd1 re1 hb2
            go_wp2_with fail
            refine (isAscending_any E ce ks i j false _ re2 HO2.out hij hj2 hl' HS2.out).mono ?_; rintro e w3 ⟨rfl, hb3⟩
            go_wp2
            go_ret2
            exact ⟨none, 0, [], ret_dd HC.out.symm, HR.out.symm, ObD.nil _ _ _ _ _, bs T2 hb3⟩
        · have HS1 := Lib.hid (show false = decide ((stepsL (cards hs) (i : Int) (j : Int) (cards hs).length).length = 0) by rw [decide_eq_false s1])
          have HC := Lib.hid (mgeC_6 HZ.out HCLF.out (fun h => s1 h.1))
          have HR := Lib.hid (mgeR_1 (L := cards hs) (M := cards ks) (a := (i : Int)) (b := (j : Int)) (by rw [HC.out]; decide))
          clear s1 o1 o2
          go_enter Try.func24, Try.ntmps24
          go_wp2_with fail
          rw [← HW.out]
          refine HCO.out.mono ?_; rintro e w1 ⟨rfl, hb1⟩
          have q1 := cell_later hb1 k1
          have q2 := cell_later hb1 k2
          have rd1 := rd.up hb1
          have re1 := re.up hb1
          have T1 := bs T0 hb1
          clear k1 k2 rd re hb1
          go_wp2_with fail
          refine (isAscending_any D c hs i j false _ rd1 HO1.out hij hj1 hl HS1.out).mono ?_; rintro e w2 ⟨rfl, hb2⟩
          go_wp2
          go_ret2
          exact ⟨none, 0, [], ret_dd HC.out.symm, HR.out.symm, ObD.nil _ _ _ _ _, bs T1 hb2⟩
      · have i1 : (0 : Int) < (hs.length : Int) := by omega
        have i2 : ¬ (0 : Int) < (ks.length : Int) := by omega
        clear hcl
        by_cases s1 : (stepsL (cards hs) (i : Int) (j : Int) (cards hs).length).length = 0
        · have HS1 := Lib.hid (show true = decide ((stepsL (cards hs) (i : Int) (j : Int) (cards hs).length).length = 0) by rw [decide_eq_true s1])
          by_cases s2 : (stepsL (cards ks) (i : Int) (j : Int) (cards ks).length).length = 0
          · have HS2 := Lib.hid (show true = decide ((stepsL (cards ks) (i : Int) (j : Int) (cards ks).length).length = 0) by rw [decide_eq_true s2])
            by_cases h40 : 40 < hs.length + ks.length
            · have HC := Lib.hid (mgeC_5 HZ.out HCLF.out ⟨s1, s2⟩ (by rw [HCA.out, HCB.out]; exact h40))
              have HR := Lib.hid (mgeR_1 (L := cards hs) (M := cards ks) (a := (i : Int)) (b := (j : Int)) (by rw [HC.out]; decide))
              have i8 : (40 : Int) < (hs.length : Int) + (ks.length : Int) := by omega
              clear s1 s2 h40 o1 o2
              go_enter Try.func24, Try.ntmps24
              go_wp2_with fail
              rw [← HW.out]
              refine HCO.out.mono ?_; rintro e w1 ⟨rfl, hb1⟩
              have q1 := cell_later hb1 k1
              have q2 := cell_later hb1 k2
              have rd1 := rd.up hb1
              have re1 := re.up hb1
              have T1 := bs T0 hb1
              clear k1 k2 rd re hb1
              go_wp2_with fail
              refine (isAscending_any D c hs i j true _ rd1 HO1.out hij hj1 hl HS1.out).mono ?_; rintro e w2 ⟨rfl, hb2⟩
              replace q1 := cell_later hb2 q1
              replace q2 := cell_later hb2 q2
              have rd2 := rd1.up hb2
              have re2 := re1.up hb2
              have T2 := bs T1 hb2
              clear rd1 re1 hb2
              go_wp2_with fail
              refine (isAscending_any E ce ks i j true _ re2 HO2.out hij hj2 hl' HS2.out).mono ?_; rintro e w3 ⟨rfl, hb3⟩
              go_wp2
              go_ret2
              exact ⟨none, 0, [], ret_dd HC.out.symm, HR.out.symm, ObD.nil _ _ _ _ _, bs T2 hb3⟩
            · have HC := Lib.hid (mgeC_0 HZ.out HCLF.out ⟨s1, s2⟩ (by rw [HCA.out, HCB.out]; exact h40))
              have HR := Lib.hid (mgeR_0 HC.out)
              have i8 : ¬ (40 : Int) < (hs.length : Int) + (ks.length : Int) := by omega
              have HAP := Lib.hid (deckOk_append o1 o2 HCLF.out (by rw [HCA.out, HCB.out]; omega))
              have hsum : hs.length + ks.length ≤ 40 := by omega
              have HTS := Lib.hid (show tot hs ≤ 1000 ∧ tot ks ≤ 1000 by
                have e1 := deckOk_sum o1
                have e2 := deckOk_sum o2
                rw [← tot_of_cards (gs := hs) rfl] at e1
                rw [← tot_of_cards (gs := ks) rfl] at e2
                omega)
              clear s1 s2 h40 o1 o2
              go_enter Try.func24, Try.ntmps24
              go_wp2_with fail
              rw [← HW.out]
              refine HCO.out.mono ?_; rintro e w1 ⟨rfl, hb1⟩
              have q1 := cell_later hb1 k1
              have q2 := cell_later hb1 k2
              have rd1 := rd.up hb1
              have re1 := re.up hb1
              have T1 := bs T0 hb1
              clear k1 k2 rd re hb1
              go_wp2_with fail
              refine (isAscending_any D c hs i j true _ rd1 HO1.out hij hj1 hl HS1.out).mono ?_; rintro e w2 ⟨rfl, hb2⟩
              replace q1 := cell_later hb2 q1
              replace q2 := cell_later hb2 q2
              have rd2 := rd1.up hb2
              have re2 := re1.up hb2
              have T2 := bs T1 hb2
              clear rd1 re1 hb2
              go_wp2_with fail
              refine (isAscending_any E ce ks i j true _ re2 HO2.out hij hj2 hl' HS2.out).mono ?_; rintro e w3 ⟨rfl, hb3⟩
              have q3 := cell_later hb3 q1
              have q4 := cell_later hb3 q2
              have rd3 := rd2.up hb3
              have re3 := re2.up hb3
              have T3 := bs T2 hb3
              have hz3 := T3.size
              have hz3' : w.heap.size < w3.heap.size := World.block_lt_of_cell? _ _ q3
              clear q1 q2 rd2 re2 hb3 T2
              go_wp2_with fail
              go_region_held3 (fun w' => w'.cell? ⟨w.heap.size, 0, none⟩ = some (.int .i64 (i : Int)) ∧ w'.cell? ⟨w.heap.size, 1, none⟩ = some (.int .i64 (j : Int))) (first | exact ⟨q3, q4⟩ | go_keep)
                (first
                  | (go_at_call 130; refine (newDeck_any D c hs _ ?_ hl).mono ?_; (first | exact rd3 | exact rd3.drew | exact rd3.drewN _); rintro e w5 ⟨D5, c5, g5, rfl, hcc5, ho5, hb5⟩; have hb5 : Below w3.heap.size w3 w5 := ⟨hb5.os, hb5.tape, hb5.output, hb5.size, hb5.block⟩; replace q3 := cell_later hb5 q3; replace q4 := cell_later hb5 q4; have HC5 := Lib.hid hcc5; have hlen5 : g5.length ≤ 40 := (by have := (cards_same hcc5).1; omega); have re5 := re3.below hb5; clear hcc5)
                  | (refine step_aps rfl (.tmp 53) (.tmp 54) 24 rfl w3.heap.size 37 q0 _ 1 24 Try.underlying24 hq0 hq1 hq2 hq3 rfl (by omega) D5 g5.length c5 (heads g5) _ rfl ho5.row.1 w3.heap.size E ks.length ce (heads ks) rfl re5.row (heads_one ks) (by omega) (by omega) hb5.size ?_; intro G6 cap w6 hown6 hb6 hg6; replace q3 := (hb6.cell (p := ⟨w.heap.size, 0, none⟩) hz3').trans q3; replace q4 := (hb6.cell (p := ⟨w.heap.size, 1, none⟩) hz3').trans q4)
                  | (go_at_call 117; refine (sortedBy_n (g5.length + ks.length) _ _ (g5 ++ ks) i j _ (List.length_append ..) ?_ ?_ hij ?_ ?_).mono ?_; (first | exact rdd_join ho5 re5 rfl hown6 hb5.size hb6 hg6 | exact (rdd_join ho5 re5 rfl hown6 hb5.size hb6 hg6).drew); (rw [cards_append, HC5.out]; exact HAP.out.1); (rw [cards_append, HC5.out]; exact HAP.out.2 j hj1 hj2); (rw [List.length_append, tot_append, tot_cards HC5.out]; have := HTS.out; omega); rintro e w7 ⟨F7, cf7, g7, rfl, hc7, ho7, hb7⟩; have hb7 : Below w6.heap.size w6 w7 := ⟨hb7.os, hb7.tape, hb7.output, hb7.size, hb7.block⟩; replace q3 := cell_later hb7 q3; replace q4 := cell_later hb7 q4))
              go_wp2
              go_ret2
              have HC7 := Lib.hid hc7
              exact ⟨F7, cf7, g7, ret_dd HC.out.symm, by rw [HR.out, hc7, cards_append, HC5.out], ho7.mono (Nat.le_trans hz3 (Nat.le_trans hb5.size hg6.size)) (Nat.le_refl _), ((T3.trans (hb5.mono hz3)).trans (hb6.mono hz3)).trans (hb7.mono (Nat.le_trans hz3 (Nat.le_trans hb5.size hg6.size)))⟩
          · have HS2 := Lib.hid (show false = decide ((stepsL (cards ks) (i : Int) (j : Int) (cards ks).length).length = 0) by rw [decide_eq_false s2])
            have HC := Lib.hid (mgeC_6 HZ.out HCLF.out (fun h => s2 h.2))
            have HR := Lib.hid (mgeR_1 (L := cards hs) (M := cards ks) (a := (i : Int)) (b := (j : Int)) (by rw [HC.out]; decide))
            clear s1 s2 o1 o2
            go_enter Try.func24, Try.ntmps24
            go_wp2_with fail
            rw [← HW.out]
            refine HCO.out.mono ?_; rintro e w1 ⟨rfl, hb1⟩
            have q1 := cell_later hb1 k1
            have q2 := cell_later hb1 k2
            have rd1 := rd.up hb1
            have re1 := re.up hb1
            have T1 := bs T0 hb1
            clear k1 k2 rd re hb1
            go_wp2_with fail
            refine (isAscending_any D c hs i j true _ rd1 HO1.out hij hj1 hl HS1.out).mono ?_; rintro e w2 ⟨rfl, hb2⟩
            replace q1 := cell_later hb2 q1
            replace q2 := cell_later hb2 q2
            have rd2 := rd1.up hb2
            have re2 := re1.up hb2
            have T2 := bs T1 hb2
            clear rd1 re1 hb2
            go_wp2_with fail
            refine (isAscending_any E ce ks i j false _ re2 HO2.out hij hj2 hl' HS2.out).mono ?_; rintro e w3 ⟨rfl, hb3⟩
            go_wp2
            go_ret2
            exact ⟨none, 0, [], ret_dd HC.out.symm, HR.out.symm, ObD.nil _ _ _ _ _, bs T2 hb3⟩
        · have HS1 := Lib.hid (show false = decide ((stepsL (cards hs) (i : Int) (j : Int) (cards hs).length).length = 0) by rw [decide_eq_false s1])
          have HC := Lib.hid (mgeC_6 HZ.out HCLF.out (fun h => s1 h.1))
          have HR := Lib.hid (mgeR_1 (L := cards hs) (M := cards ks) (a := (i : Int)) (b := (j : Int)) (by rw [HC.out]; decide))
          clear s1 o1 o2
          go_enter Try.func24, Try.ntmps24
          go_wp2_with fail
          rw [← HW.out]
          refine HCO.out.mono ?_; rintro e w1 ⟨rfl, hb1⟩
          have q1 := cell_later hb1 k1
          have q2 := cell_later hb1 k2
          have rd1 := rd.up hb1
          have re1 := re.up hb1
          have T1 := bs T0 hb1
          clear k1 k2 rd re hb1
          go_wp2_with fail
          refine (isAscending_any D c hs i j false _ rd1 HO1.out hij hj1 hl HS1.out).mono ?_; rintro e w2 ⟨rfl, hb2⟩
          go_wp2
          go_ret2
          exact ⟨none, 0, [], ret_dd HC.out.symm, HR.out.symm, ObD.nil _ _ _ _ _, bs T1 hb2⟩
      · have i1 : (0 : Int) < (hs.length : Int) := by omega
        have i2 : (0 : Int) < (ks.length : Int) := by omega
        have i3 : ((deckW (cards hs) : Int) != (deckW (cards ks) : Int)) = false := bne_f (by omega)
        clear hcl
        by_cases s1 : (stepsL (cards hs) (i : Int) (j : Int) (cards hs).length).length = 0
        · have HS1 := Lib.hid (show true = decide ((stepsL (cards hs) (i : Int) (j : Int) (cards hs).length).length = 0) by rw [decide_eq_true s1])
          by_cases s2 : (stepsL (cards ks) (i : Int) (j : Int) (cards ks).length).length = 0
          · have HS2 := Lib.hid (show true = decide ((stepsL (cards ks) (i : Int) (j : Int) (cards ks).length).length = 0) by rw [decide_eq_true s2])
            by_cases h40 : 40 < hs.length + ks.length
            · have HC := Lib.hid (mgeC_5 HZ.out HCLF.out ⟨s1, s2⟩ (by rw [HCA.out, HCB.out]; exact h40))
              have HR := Lib.hid (mgeR_1 (L := cards hs) (M := cards ks) (a := (i : Int)) (b := (j : Int)) (by rw [HC.out]; decide))
              have i8 : (40 : Int) < (hs.length : Int) + (ks.length : Int) := by omega
              clear s1 s2 h40 o1 o2
              go_enter Try.func24, Try.ntmps24
              go_wp2_with fail
              rw [← HW.out]
              refine HCO.out.mono ?_; rintro e w1 ⟨rfl, hb1⟩
              have q1 := cell_later hb1 k1
              have q2 := cell_later hb1 k2
              have rd1 := rd.up hb1
              have re1 := re.up hb1
              have T1 := bs T0 hb1
              clear k1 k2 rd re hb1
              go_wp2_with fail
              refine (deckColumns_any D c hs _ rd1 hl).mono ?_; rintro e u1 ⟨rfl, hv1⟩
              go_wp2_with fail
              refine (deckColumns_any E ce ks _ (re1.up hv1) hl').mono ?_; rintro e u2 ⟨rfl, hv2⟩
              have TV := bs hv1 hv2
              replace q1 := cell_later TV q1
              replace q2 := cell_later TV q2
              replace rd1 := rd1.up TV
              replace re1 := re1.up TV
              replace T1 := bs T1 TV
              clear hv1 hv2 TV
              go_wp2_with fail
              refine (isAscending_any D c hs i j true _ rd1 HO1.out hij hj1 hl HS1.out).mono ?_; rintro e w2 ⟨rfl, hb2⟩
              replace q1 := cell_later hb2 q1
              replace q2 := cell_later hb2 q2
              have rd2 := rd1.up hb2
              have re2 := re1.up hb2
              have T2 := bs T1 hb2
              clear rd1 re1 hb2
              go_wp2_with fail
              refine (isAscending_any E ce ks i j true _ re2 HO2.out hij hj2 hl' HS2.out).mono ?_; rintro e w3 ⟨rfl, hb3⟩
              go_wp2
              go_ret2
              exact ⟨none, 0, [], ret_dd HC.out.symm, HR.out.symm, ObD.nil _ _ _ _ _, bs T2 hb3⟩
            · have HC := Lib.hid (mgeC_0 HZ.out HCLF.out ⟨s1, s2⟩ (by rw [HCA.out, HCB.out]; exact h40))
              have HR := Lib.hid (mgeR_0 HC.out)
              have i8 : ¬ (40 : Int) < (hs.length : Int) + (ks.length : Int) := by omega
              have HAP := Lib.hid (deckOk_append o1 o2 HCLF.out (by rw [HCA.out, HCB.out]; omega))
              have hsum : hs.length + ks.length ≤ 40 := by omega
              have HTS := Lib.hid (show tot hs ≤ 1000 ∧ tot ks ≤ 1000 by
                have e1 := deckOk_sum o1
                have e2 := deckOk_sum o2
                rw [← tot_of_cards (gs := hs) rfl] at e1
                rw [← tot_of_cards (gs := ks) rfl] at e2
                omega)
              clear s1 s2 h40 o1 o2
              go_enter Try.func24, Try.ntmps24
              go_wp2_with fail
              rw [← HW.out]
              refine HCO.out.mono ?_; rintro e w1 ⟨rfl, hb1⟩
              have q1 := cell_later hb1 k1
              have q2 := cell_later hb1 k2
              have rd1 := rd.up hb1
              have re1 := re.up hb1
              have T1 := bs T0 hb1
              clear k1 k2 rd re hb1
              go_wp2_with fail
              refine (deckColumns_any D c hs _ rd1 hl).mono ?_; rintro e u1 ⟨rfl, hv1⟩
              go_wp2_with fail
              refine (deckColumns_any E ce ks _ (re1.up hv1) hl').mono ?_; rintro e u2 ⟨rfl, hv2⟩
              have TV := bs hv1 hv2
              replace q1 := cell_later TV q1
              replace q2 := cell_later TV q2
              replace rd1 := rd1.up TV
              replace re1 := re1.up TV
              replace T1 := bs T1 TV
              clear hv1 hv2 TV
              go_wp2_with fail
              refine (isAscending_any D c hs i j true _ rd1 HO1.out hij hj1 hl HS1.out).mono ?_; rintro e w2 ⟨rfl, hb2⟩
              replace q1 := cell_later hb2 q1
              replace q2 := cell_later hb2 q2
              have rd2 := rd1.up hb2
              have re2 := re1.up hb2
              have T2 := bs T1 hb2
              clear rd1 re1 hb2
              go_wp2_with fail
              refine (isAscending_any E ce ks i j true _ re2 HO2.out hij hj2 hl' HS2.out).mono ?_; rintro e w3 ⟨rfl, hb3⟩
              have q3 := cell_later hb3 q1
              have q4 := cell_later hb3 q2
              have rd3 := rd2.up hb3
              have re3 := re2.up hb3
              have T3 := bs T2 hb3
              have hz3 := T3.size
              have hz3' : w.heap.size < w3.heap.size := World.block_lt_of_cell? _ _ q3
              clear q1 q2 rd2 re2 hb3 T2
              go_wp2_with fail
              go_region_held3 (fun w' => w'.cell? ⟨w.heap.size, 0, none⟩ = some (.int .i64 (i : Int)) ∧ w'.cell? ⟨w.heap.size, 1, none⟩ = some (.int .i64 (j : Int))) (first | exact ⟨q3, q4⟩ | go_keep)
                (first
                  | (go_at_call 130; refine (newDeck_any D c hs _ ?_ hl).mono ?_; (first | exact rd3 | exact rd3.drew | exact rd3.drewN _); rintro e w5 ⟨D5, c5, g5, rfl, hcc5, ho5, hb5⟩; have hb5 : Below w3.heap.size w3 w5 := ⟨hb5.os, hb5.tape, hb5.output, hb5.size, hb5.block⟩; replace q3 := cell_later hb5 q3; replace q4 := cell_later hb5 q4; have HC5 := Lib.hid hcc5; have hlen5 : g5.length ≤ 40 := (by have := (cards_same hcc5).1; omega); have re5 := re3.below hb5; clear hcc5)
                  | (refine step_aps rfl (.tmp 53) (.tmp 54) 24 rfl w3.heap.size 37 q0 _ 1 24 Try.underlying24 hq0 hq1 hq2 hq3 rfl (by omega) D5 g5.length c5 (heads g5) _ rfl ho5.row.1 w3.heap.size E ks.length ce (heads ks) rfl re5.row (heads_one ks) (by omega) (by omega) hb5.size ?_; intro G6 cap w6 hown6 hb6 hg6; replace q3 := (hb6.cell (p := ⟨w.heap.size, 0, none⟩) hz3').trans q3; replace q4 := (hb6.cell (p := ⟨w.heap.size, 1, none⟩) hz3').trans q4)
                  | (go_at_call 117; refine (sortedBy_n (g5.length + ks.length) _ _ (g5 ++ ks) i j _ (List.length_append ..) ?_ ?_ hij ?_ ?_).mono ?_; (first | exact rdd_join ho5 re5 rfl hown6 hb5.size hb6 hg6 | exact (rdd_join ho5 re5 rfl hown6 hb5.size hb6 hg6).drew); (rw [cards_append, HC5.out]; exact HAP.out.1); (rw [cards_append, HC5.out]; exact HAP.out.2 j hj1 hj2); (rw [List.length_append, tot_append, tot_cards HC5.out]; have := HTS.out; omega); rintro e w7 ⟨F7, cf7, g7, rfl, hc7, ho7, hb7⟩; have hb7 : Below w6.heap.size w6 w7 := ⟨hb7.os, hb7.tape, hb7.output, hb7.size, hb7.block⟩; replace q3 := cell_later hb7 q3; replace q4 := cell_later hb7 q4))
              go_wp2
              go_ret2
              have HC7 := Lib.hid hc7
              exact ⟨F7, cf7, g7, ret_dd HC.out.symm, by rw [HR.out, hc7, cards_append, HC5.out], ho7.mono (Nat.le_trans hz3 (Nat.le_trans hb5.size hg6.size)) (Nat.le_refl _), ((T3.trans (hb5.mono hz3)).trans (hb6.mono hz3)).trans (hb7.mono (Nat.le_trans hz3 (Nat.le_trans hb5.size hg6.size)))⟩
          · have HS2 := Lib.hid (show false = decide ((stepsL (cards ks) (i : Int) (j : Int) (cards ks).length).length = 0) by rw [decide_eq_false s2])
            have HC := Lib.hid (mgeC_6 HZ.out HCLF.out (fun h => s2 h.2))
            have HR := Lib.hid (mgeR_1 (L := cards hs) (M := cards ks) (a := (i : Int)) (b := (j : Int)) (by rw [HC.out]; decide))
            clear s1 s2 o1 o2
            go_enter Try.func24, Try.ntmps24
            go_wp2_with fail
            rw [← HW.out]
            refine HCO.out.mono ?_; rintro e w1 ⟨rfl, hb1⟩
            have q1 := cell_later hb1 k1
            have q2 := cell_later hb1 k2
            have rd1 := rd.up hb1
            have re1 := re.up hb1
            have T1 := bs T0 hb1
            clear k1 k2 rd re hb1
            go_wp2_with fail
            refine (deckColumns_any D c hs _ rd1 hl).mono ?_; rintro e u1 ⟨rfl, hv1⟩
            go_wp2_with fail
            refine (deckColumns_any E ce ks _ (re1.up hv1) hl').mono ?_; rintro e u2 ⟨rfl, hv2⟩
            have TV := bs hv1 hv2
            replace q1 := cell_later TV q1
            replace q2 := cell_later TV q2
            replace rd1 := rd1.up TV
            replace re1 := re1.up TV
            replace T1 := bs T1 TV
            clear hv1 hv2 TV
            go_wp2_with fail
            refine (isAscending_any D c hs i j true _ rd1 HO1.out hij hj1 hl HS1.out).mono ?_; rintro e w2 ⟨rfl, hb2⟩
            replace q1 := cell_later hb2 q1
            replace q2 := cell_later hb2 q2
            have rd2 := rd1.up hb2
            have re2 := re1.up hb2
            have T2 := bs T1 hb2
            clear rd1 re1 hb2
            go_wp2_with fail
            refine (isAscending_any E ce ks i j false _ re2 HO2.out hij hj2 hl' HS2.out).mono ?_; rintro e w3 ⟨rfl, hb3⟩
            go_wp2
            go_ret2
            exact ⟨none, 0, [], ret_dd HC.out.symm, HR.out.symm, ObD.nil _ _ _ _ _, bs T2 hb3⟩
        · have HS1 := Lib.hid (show false = decide ((stepsL (cards hs) (i : Int) (j : Int) (cards hs).length).length = 0) by rw [decide_eq_false s1])
          have HC := Lib.hid (mgeC_6 HZ.out HCLF.out (fun h => s1 h.1))
          have HR := Lib.hid (mgeR_1 (L := cards hs) (M := cards ks) (a := (i : Int)) (b := (j : Int)) (by rw [HC.out]; decide))
          clear s1 o1 o2
          go_enter Try.func24, Try.ntmps24
          go_wp2_with fail
          rw [← HW.out]
          refine HCO.out.mono ?_; rintro e w1 ⟨rfl, hb1⟩
          have q1 := cell_later hb1 k1
          have q2 := cell_later hb1 k2
          have rd1 := rd.up hb1
          have re1 := re.up hb1
          have T1 := bs T0 hb1
          clear k1 k2 rd re hb1
          go_wp2_with fail
          refine (deckColumns_any D c hs _ rd1 hl).mono ?_; rintro e u1 ⟨rfl, hv1⟩
          go_wp2_with fail
          refine (deckColumns_any E ce ks _ (re1.up hv1) hl').mono ?_; rintro e u2 ⟨rfl, hv2⟩
          have TV := bs hv1 hv2
          replace q1 := cell_later TV q1
          replace q2 := cell_later TV q2
          replace rd1 := rd1.up TV
          replace re1 := re1.up TV
          replace T1 := bs T1 TV
          clear hv1 hv2 TV
          go_wp2_with fail
          refine (isAscending_any D c hs i j false _ rd1 HO1.out hij hj1 hl HS1.out).mono ?_; rintro e w2 ⟨rfl, hb2⟩
          go_wp2
          go_ret2
          exact ⟨none, 0, [], ret_dd HC.out.symm, HR.out.symm, ObD.nil _ _ _ _ _, bs T1 hb2⟩
  · have HC := Lib.hid (mgeC_e hz)
    have HR := Lib.hid (mgeR_1 (L := cards hs) (M := cards ks) (a := a) (b := b) (by rw [HC.out]; exact hz))
    have e1 := bne_t hz
    clear hz
    go_enter Try.func24, Try.ntmps24
    go_wp2_with fail
    rw [← HW.out]
    refine HCO.out.mono ?_; rintro e w1 ⟨rfl, hb1⟩
    go_wp2
    go_ret2
    exact ⟨none, 0, [], ret_dd HC.out.symm, HR.out.symm, ObD.nil _ _ _ _ _, bs T0 hb1⟩
end Go.Proofs.Ytdppmlchabogaaa
