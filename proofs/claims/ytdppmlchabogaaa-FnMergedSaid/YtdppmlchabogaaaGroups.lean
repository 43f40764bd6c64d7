/- Groups: GroupsOf, SequenceErrors; in the program and in the reference. -/
import Derived.Test.YtdppmlchabogaaaKeysAll
import Derived.Test.YtdppmlchabogaaaCollate
namespace Go.Proofs.Ytdppmlchabogaaa
open Go.RowKit

/-- Behind k cards. -/
def GrR (L : List (List Int)) (i j : Nat) (w wr : World) (o q : Value) : Prop := ∃ (k : Nat) (g cg : Nat), k ≤ L.length ∧ q = .int .i64 k ∧ o = .slice (some ⟨g, 0, none⟩) (grpL L (i : Int) (j : Int) k).length cg ∧
  wr.ownsRow w.heap.size 2 1 (.slice (some ⟨g, 0, none⟩) (grpL L (i : Int) (j : Int) k).length cg) (grpL L (i : Int) (j : Int) k).length (ints (grpL L (i : Int) (j : Int) k)) ∧ Below w.heap.size w wr

set_option maxRecDepth 20000 in
set_option maxHeartbeats 4000000 in
theorem groupsOf_any (D : Option Addr) (c : Nat) (hs : List Hd) (i j : Nat) (w : World) (ha : RdD w w.heap.size D hs) (hok : deckOk (cards hs) = true) (hij : i < j) (hj : j ≤ deckW (cards hs)) (hl : hs.length + tot hs ≤ 1048576) :
    Calls Try.prog 145 #[.slice D hs.length c, .agg #[.int .i64 (i : Int), .int .i64 (j : Int)]] w fun e w' => ∃ G cg, e = .returned (.slice G (grpL (cards hs) (i : Int) (j : Int) hs.length).length cg) ∧
      w'.ownsRow w.heap.size 2 1 (.slice G (grpL (cards hs) (i : Int) (j : Int) hs.length).length cg) (grpL (cards hs) (i : Int) (j : Int) hs.length).length (ints (grpL (cards hs) (i : Int) (j : Int) hs.length)) ∧ Below w.heap.size w w' := by
  obtain ⟨j0, hj0', hj0, hj1, hj2⟩ := info_parts info_i64K
  have HCL := Lib.hid (cards_length hs)
  have HOK := Lib.hid hok
  have h40 : hs.length ≤ 40 := by have := deckOk_len hok; rwa [cards_length] at this
  have T0 : Below w.heap.size w (w.alloc (.cells #[.int .i64 (i : Int), .int .i64 (j : Int)] 27)) := ba (b0 w) _
  have ra := ha.a1 (.cells #[.int .i64 (i : Int), .int .i64 (j : Int)] 27)
  obtain ⟨W, hW⟩ : ∃ W, W = w.alloc (.cells #[.int .i64 (i : Int), .int .i64 (j : Int)] 27) := ⟨_, rfl⟩
  have k2 : W.cell? ⟨w.heap.size, 0, none⟩ = some (.int .i64 (i : Int)) := by rw [hW]; exact cell_new rfl rfl
  have k3 : W.cell? ⟨w.heap.size, 1, none⟩ = some (.int .i64 (j : Int)) := by rw [hW]; exact cell_new rfl rfl
  rw [← hW] at T0 ra
  have HW := Lib.hid hW
  have HWS := Lib.hid (show W.heap.size = w.heap.size + 1 by rw [hW]; simp)
  clear hW hok
  go_enter Try.func145, Try.ntmps145
  go_wp2
  rw [← HW.out]
  go_loopw [5, 6, 7, 11] (fun o _ _ q wr => GrR (cards hs) i j W wr o q) (fun _ _ _ q _ => hs.length - (intOf q).toNat)
  case atStart =>
    refine ⟨0, w.heap.size + 1, 0, by omega, rfl, by rw [grpL_zero]; rfl, ?_, ba (b0 W) (.cells #[] 2)⟩
    rw [grpL_zero]
    exact own_lit W #[] 0 HWS.out.symm (Nat.le_refl _) (by omega) rfl
  case round =>
    obtain ⟨wo, rfl⟩ : ∃ wo : World, wo = wr := ⟨_, rfl⟩
    obtain ⟨k, g, cg, hk, rfl, rfl, hown, hbw⟩ := hrel
    have hk' : k ≤ hs.length := by rw [← HCL.out]; exact hk
    clear hk
    by_cases hlt : k < hs.length
    · have hkL : k < (cards hs).length := by rw [HCL.out]; exact hlt
      have hsl := grpL_len (cards hs) (i : Int) (j : Int) k
      have hrc := ra.up hbw
      have rc := (hrc.card_at hlt).a1 (.cells #[.slice hs[k].a hs[k].xs.length hs[k].c] 37)
      have hcap := hrc.cap_at hlt
      have hlc : hs[k].xs.length ≤ 1048576 := by have := tot_at hs k hlt; omega
      have hjk : j ≤ hs[k].xs.length := by rw [← deckW_at HOK.out hlt]; exact hj
      obtain ⟨b1, o1, rfl, _, hcell⟩ := hrc.at_ hlt
      have d1 := hcell k hlt
      have d3 := cell_alloc (cell_later hbw k2) (.cells #[.slice hs[k].a hs[k].xs.length hs[k].c] 37)
      have d4 := cell_alloc (cell_later hbw k3) (.cells #[.slice hs[k].a hs[k].xs.length hs[k].c] 37)
      have d5 : World.cell? (wo.alloc (.cells #[.slice hs[k].a hs[k].xs.length hs[k].c] 37)) ⟨wo.heap.size, 0, none⟩ = some (.slice hs[k].a hs[k].xs.length hs[k].c) := cell_new rfl rfl
      have TB0 : Below W.heap.size W (wo.alloc (.cells #[.slice hs[k].a hs[k].xs.length hs[k].c] 37)) := ba hbw _
      have hownB := own_bs hown (ba (b0 wo) (.cells #[.slice hs[k].a hs[k].xs.length hs[k].c] 37))
      have i1 : (k : Int) < (hs.length : Int) := by omega
      obtain ⟨ss, hss⟩ : ∃ ss, ss = grpL (cards hs) (i : Int) (j : Int) k := ⟨_, rfl⟩
      rw [← hss] at hownB hsl ⊢
      have HSS := Lib.hid hss
      clear hss hown
      by_cases hp0 : k = 0
      · have HR := Lib.hid (show grpL (cards hs) (i : Int) (j : Int) (k + 1) = ss ++ [(k : Int)] by rw [grpL_yes (.inl hp0), HSS.out])
        have e1 : ((k : Int) == 0) = true := beq_t (by omega)
        have l5 := fun x : Later (wo.alloc (.cells #[.slice hs[k].a hs[k].xs.length hs[k].c] 37)) => lat_cell x d5
        clear hp0 hcell hrc
        go_wp2_with fail
        refine wp_region_later (by kernel_rfl) (by kernel_rfl) ?_
        repeat (go_big_quiet_step (fail))
        refine wpQuiet_nil ?_
        intro w4 hb4
        have hownN := own_bs hownB hb4
        have TB := bs TB0 hb4
        have hbase4 := TB.size
        clear hownB hb4 hbw TB0 rc l5 d1 d3 d4 d5
        go_wp2_with (at_builtin; refine wpList_ap rfl (.tmp 29) (.tmp 31) 29 rfl W.heap.size 2 j0 _ 1 8 Try.underlying29 hj0' hj0 hj1 hj2 rfl (by omega) _ ss.length _ (ints ss) rfl w4 hownN 1 #[.int .i64 (k : Int)] w4.heap.size rfl rfl rfl (by intro v hv; simp at hv; subst hv; rfl) (by omega) (by omega) (by omega) hbase4 ?_; intro gg cap w6 hown6 hb6 hg6 _ _)
        have HO := Lib.hid (show w6.ownsRow W.heap.size 2 1 (.slice (some ⟨gg, 0, none⟩) (ss.length + 1) cap) (ss.length + 1) (ints (ss ++ [(k : Int)])) by rw [ints_snoc]; exact hown6)
        have HB := Lib.hid (TB.trans hb6)
        clear hown6 hownN hb6 hg6 TB
        go_wp2
        go_roundw
        case rel =>
          have P : GrR (cards hs) i j W w6 (.slice (some ⟨gg, 0, none⟩) (ss.length + 1) cap) (.int .i64 ((k : Int) + 1)) := ⟨k + 1, gg, cap, by omega, by go_num, by rw [HR.out, List.length_append]; rfl, by rw [HR.out, List.length_append]; exact HO.out, HB.out⟩
          first | exact P | exact ⟨_, P, rfl⟩ | exact ⟨_, _, P, rfl, rfl⟩ | exact ⟨_, _, _, P, rfl, rfl, rfl⟩ | exact ⟨_, _, _, _, P, rfl, rfl, rfl, rfl⟩ | exact ⟨_, _, _, _, _, P, rfl, rfl, rfl, rfl, rfl⟩ | exact ⟨_, _, _, _, _, _, P, rfl, rfl, rfl, rfl, rfl, rfl⟩ | exact ⟨_, _, _, _, _, _, _, P, rfl, rfl, rfl, rfl, rfl, rfl, rfl⟩ | exact ⟨_, _, _, _, _, _, _, _, P, rfl, rfl, rfl, rfl, rfl, rfl, rfl, rfl⟩
        case measure => simp [intOf]; omega
      · have e1 : ((k : Int) == 0) = false := beq_f (by omega)
        have hltp : k - 1 < hs.length := by omega
        have rc' := (hrc.card_at hltp).a1 (.cells #[.slice hs[k].a hs[k].xs.length hs[k].c] 37)
        have hcap' := hrc.cap_at hltp
        have hlc' : hs[k - 1].xs.length ≤ 1048576 := by have := tot_at hs (k - 1) hltp; omega
        have hjk' : j ≤ hs[k - 1].xs.length := by rw [← deckW_at HOK.out hltp]; exact hj
        have d2 := cell_alloc (hcell (k - 1) hltp) (.cells #[.slice hs[k].a hs[k].xs.length hs[k].c] 37)
        obtain ⟨z, hz⟩ : ∃ z, z = cmpR (part hs[k - 1].xs (i : Int) (j : Int)) (part hs[k].xs (i : Int) (j : Int)) := ⟨_, rfl⟩
        have HZ := Lib.hid hz
        have HZC := Lib.hid (show z = cmpC (cards hs) (i : Int) (j : Int) (k - 1) k by rw [hz, cmpC_hd hltp hlt])
        have i2 : ((k - 1 : Nat) : Int) < (hs.length : Int) := by omega
        have hw1 : IntKind.i64.wrap ((k : Int) - 1) = ((k - 1 : Nat) : Int) := by rw [IntWalk.i64_in _ (by omega)]; omega
        have l2 := fun x : Later (wo.alloc (.cells #[.slice hs[k].a hs[k].xs.length hs[k].c] 37)) => lat_cell x d2
        have l3 := fun x : Later (wo.alloc (.cells #[.slice hs[k].a hs[k].xs.length hs[k].c] 37)) => lat_cell x d3
        have l4 := fun x : Later (wo.alloc (.cells #[.slice hs[k].a hs[k].xs.length hs[k].c] 37)) => lat_cell x d4
        have l5 := fun x : Later (wo.alloc (.cells #[.slice hs[k].a hs[k].xs.length hs[k].c] 37)) => lat_cell x d5
        clear hcell hrc hz
        by_cases hp : z = 0
        · have HR := Lib.hid (show grpL (cards hs) (i : Int) (j : Int) (k + 1) = ss by rw [grpL_no hp0 (by rw [← HZC.out]; exact hp), HSS.out])
          have e2 : (z != 0) = false := bne_f hp
          clear hp hp0
          go_wp2_with fail
          refine wp_region_later (by kernel_rfl) (by kernel_rfl) ?_
          repeat (go_big_quiet_step ((go_at_call 219; exact lat_call (compareFields_z _ _ _ _ hs[k - 1].xs hs[k].xs i j z _ HZ.out (lat_rd _ rc') (lat_rd _ rc) hij hjk' hjk hlc' hlc hcap' hcap))))
          refine wpQuiet_nil ?_
          intro w4 hb4
          have HO := Lib.hid (own_bs hownB hb4)
          have HB := Lib.hid (bs TB0 hb4)
          clear hw1 hownB hb4 hbw rc rc' l2 l3 l4 l5
          go_wp2
          go_roundw
          case rel =>
            have P : GrR (cards hs) i j W w4 (.slice (some ⟨g, 0, none⟩) ss.length cg) (.int .i64 ((k : Int) + 1)) := ⟨k + 1, g, cg, by omega, by go_num, by rw [HR.out], by rw [HR.out]; exact HO.out, HB.out⟩
            first | exact P | exact ⟨_, P, rfl⟩ | exact ⟨_, _, P, rfl, rfl⟩ | exact ⟨_, _, _, P, rfl, rfl, rfl⟩ | exact ⟨_, _, _, _, P, rfl, rfl, rfl, rfl⟩ | exact ⟨_, _, _, _, _, P, rfl, rfl, rfl, rfl, rfl⟩ | exact ⟨_, _, _, _, _, _, P, rfl, rfl, rfl, rfl, rfl, rfl⟩ | exact ⟨_, _, _, _, _, _, _, P, rfl, rfl, rfl, rfl, rfl, rfl, rfl⟩ | exact ⟨_, _, _, _, _, _, _, _, P, rfl, rfl, rfl, rfl, rfl, rfl, rfl, rfl⟩
          case measure => simp [intOf]; omega
        · have HR := Lib.hid (show grpL (cards hs) (i : Int) (j : Int) (k + 1) = ss ++ [(k : Int)] by rw [grpL_yes (.inr (by rw [← HZC.out]; exact hp)), HSS.out])
          have e2 : (z != 0) = true := bne_t hp
          clear hp hp0
          go_wp2_with fail
          refine wp_region_later (by kernel_rfl) (by kernel_rfl) ?_
          repeat (go_big_quiet_step ((go_at_call 219; exact lat_call (compareFields_z _ _ _ _ hs[k - 1].xs hs[k].xs i j z _ HZ.out (lat_rd _ rc') (lat_rd _ rc) hij hjk' hjk hlc' hlc hcap' hcap))))
          refine wpQuiet_nil ?_
          intro w4 hb4
          have hownN := own_bs hownB hb4
          have TB := bs TB0 hb4
          have hbase4 := TB.size
          clear hw1 hownB hb4 hbw TB0 rc rc' l2 l3 l4 l5
          go_wp2_with (at_builtin; refine wpList_ap rfl (.tmp 29) (.tmp 31) 29 rfl W.heap.size 2 j0 _ 1 8 Try.underlying29 hj0' hj0 hj1 hj2 rfl (by omega) _ ss.length _ (ints ss) rfl w4 hownN 1 #[.int .i64 (k : Int)] w4.heap.size rfl rfl rfl (by intro v hv; simp at hv; subst hv; rfl) (by omega) (by omega) (by omega) hbase4 ?_; intro gg cap w6 hown6 hb6 hg6 _ _)
          have HO := Lib.hid (show w6.ownsRow W.heap.size 2 1 (.slice (some ⟨gg, 0, none⟩) (ss.length + 1) cap) (ss.length + 1) (ints (ss ++ [(k : Int)])) by rw [ints_snoc]; exact hown6)
          have HB := Lib.hid (TB.trans hb6)
          clear hown6 hownN hb6 hg6 TB
          go_wp2
          go_roundw
          case rel =>
            have P : GrR (cards hs) i j W w6 (.slice (some ⟨gg, 0, none⟩) (ss.length + 1) cap) (.int .i64 ((k : Int) + 1)) := ⟨k + 1, gg, cap, by omega, by go_num, by rw [HR.out, List.length_append]; rfl, by rw [HR.out, List.length_append]; exact HO.out, HB.out⟩
            first | exact P | exact ⟨_, P, rfl⟩ | exact ⟨_, _, P, rfl, rfl⟩ | exact ⟨_, _, _, P, rfl, rfl, rfl⟩ | exact ⟨_, _, _, _, P, rfl, rfl, rfl, rfl⟩ | exact ⟨_, _, _, _, _, P, rfl, rfl, rfl, rfl, rfl⟩ | exact ⟨_, _, _, _, _, _, P, rfl, rfl, rfl, rfl, rfl, rfl⟩ | exact ⟨_, _, _, _, _, _, _, P, rfl, rfl, rfl, rfl, rfl, rfl, rfl⟩ | exact ⟨_, _, _, _, _, _, _, _, P, rfl, rfl, rfl, rfl, rfl, rfl, rfl, rfl⟩
          case measure => simp [intOf]; omega
    · obtain rfl : k = hs.length := by omega
      go_wp2
      go_ret
      exact ⟨_, cg, rfl, own_base hown T0.size, bs T0 hbw⟩

theorem ba_beq (s t : ByteArray) : (s == t) = decide (s = t) := by
  rw [Bool.eq_iff_iff]
  constructor
  · intro h
    have h2 : s.data == t.data := h
    have h3 := eq_of_beq h2
    cases s; cases t; simp_all
  · intro h
    have h := of_decide_eq_true h
    subst h
    show (s.data == s.data) = true
    exact beq_self_eq_true _
theorem ba_bne (s t : ByteArray) : (s != t) = !decide (s = t) := by
  show (!(s == t)) = _
  rw [ba_beq]
theorem ba_list_t {s t : ByteArray} (h : s = t) : (s.toList == t.toList) = true := by
  subst h
  exact beq_self_eq_true _
theorem ba_list_f {s t : ByteArray} (h : ¬ s = t) : (s.toList == t.toList) = false := by
  rw [beq_eq_false_iff_ne]
  intro e
  rw [Lib.toList_data, Lib.toList_data] at e
  exact h (by cases s; cases t; simp_all)
theorem bs_inj {s t : List UInt8} : (bs_ s = bs_ t) ↔ s = t := by
  constructor
  · intro h
    have := congrArg byt h
    simpa [byt_bs] using this
  · intro h
    rw [h]
theorem grp_text {L : List (List Int)} (hok : deckOk L = true) {i j : Nat} (hij : i < j) (hj : j ≤ deckW L) (hv : haveF L (i : Int) (j : Int) = true) {p q : Nat} (hp : p < L.length) (hq : q < L.length) :
    (textL (part L[p] (i : Int) (j : Int)) = textL (part L[q] (i : Int) (j : Int))) ↔ cmpC L (i : Int) (j : Int) q p = 0 := by
  rw [cmpC_at hq hp, ← text_eq (haveF_at hv hq) (haveF_at hv hp) (by rw [(part_deck hok hij hj hq).1, (part_deck hok hij hj hp).1])]
  exact ⟨fun h => h.symm, fun h => h.symm⟩
def grpRes (L : List (List Int)) (a b : Int) : List Int := if codeK L a b = 0 then grpL L a b L.length else []
theorem grpRes_0 {L : List (List Int)} {a b : Int} (h : codeK L a b = 0) : grpRes L a b = grpL L a b L.length := by unfold grpRes; rw [if_pos h]
theorem grpRes_1 {L : List (List Int)} {a b : Int} (h : codeK L a b ≠ 0) : grpRes L a b = [] := by unfold grpRes; rw [if_neg h]
theorem grpRes_len (L : List (List Int)) (a b : Int) : (grpRes L a b).length ≤ 40 := by
  by_cases h : codeK L a b = 0
  · rw [grpRes_0 h]
    have h1 := grpL_len L a b L.length
    have h2 := deckOk_len (codeK_zero h).1
    omega
  · rw [grpRes_1 h]; simp
def seqRes (L : List (List Int)) (a b : Int) : List Int := if codeK L a b = 0 then stepsL L a b L.length else []
theorem seqRes_0 {L : List (List Int)} {a b : Int} (h : codeK L a b = 0) : seqRes L a b = stepsL L a b L.length := by unfold seqRes; rw [if_pos h]
theorem seqRes_1 {L : List (List Int)} {a b : Int} (h : codeK L a b ≠ 0) : seqRes L a b = [] := by unfold seqRes; rw [if_neg h]
theorem seqRes_len (L : List (List Int)) (a b : Int) : (seqRes L a b).length ≤ 40 := by
  by_cases h : codeK L a b = 0
  · rw [seqRes_0 h]
    have h1 := stepsL_len L a b L.length
    have h2 := deckOk_len (codeK_zero h).1
    omega
  · rw [seqRes_1 h]; simp
theorem own_nilI (w : World) (B : Nat) {l : List Int} (h : l = []) : w.ownsRow B 2 1 (.slice none l.length 0) l.length (ints l) := by
  subst h
  exact World.ownsRow_nil _ _ _ _

set_option maxHeartbeats 4000000 in
theorem GroupsOf_any (D : Option Addr) (c : Nat) (hs : List Hd) (L : List (List Int)) (a b : Int) (w : World) (ha : RdD w w.heap.size D hs) (hL : cards hs = L) (hl : hs.length + tot hs ≤ 1048576) (hc : hs.length ≤ c) :
    Calls Try.prog 34 #[.slice D hs.length c, .agg #[.int .i64 a, .int .i64 b]] w fun e w' => ∃ G cg, e = .returned (.tuple #[.slice G (grpRes L a b).length cg, .int .i64 (codeK L a b)]) ∧
      w'.ownsRow w.heap.size 2 1 (.slice G (grpRes L a b).length cg) (grpRes L a b).length (ints (grpRes L a b)) ∧ Below w.heap.size w w' := by
  subst hL
  have T0 : Below w.heap.size w ((w.alloc (.cells #[.int .i64 a, .int .i64 b] 27)).alloc (.cells #[.slice D hs.length c] 24)) := ba (ba (b0 w) _) _
  have ra := (ha.a1 (.cells #[.int .i64 a, .int .i64 b] 27)).a1 (.cells #[.slice D hs.length c] 24)
  have HCL := Lib.hid (cards_length hs)
  by_cases hz : codeK (cards hs) a b = 0
  · obtain ⟨h1, h2, h3⟩ := codeK_zero hz
    obtain ⟨i, j, rfl, rfl, hij, hjw⟩ := fieldOk_nat h2
    have HZ := Lib.hid hz
    have H1 := Lib.hid h1
    have HR := Lib.hid (show grpRes (cards hs) (i : Int) (j : Int) = grpL (cards hs) (i : Int) (j : Int) hs.length by rw [grpRes_0 hz, HCL.out])
    clear hz h1 h2 h3
    go_enter Try.func34, Try.ntmps34
    go_wp2_with fail
    refine (collate1_any _ _ (w.heap.size + 1) D c hs _ (cell_new (by simp) rfl) ra hc hl).mono ?_; rintro e w1 ⟨rfl, hb1⟩
    have k2 : w1.cell? ⟨w.heap.size, 0, none⟩ = some (.int .i64 (i : Int)) := cell_later hb1 (cell_alloc (cell_new rfl rfl) _)
    have k3 : w1.cell? ⟨w.heap.size, 1, none⟩ = some (.int .i64 (j : Int)) := cell_later hb1 (cell_alloc (cell_new rfl rfl) _)
    have e0 : codeK (cards hs) (i : Int) (j : Int) = 0 := HZ.out
    have T1 := bs T0 hb1
    go_wp2_with fail
    refine (groupsOf_any _ _ hs i j _ (ra.up hb1) H1.out hij hjw hl).mono ?_; rintro e w2 ⟨G, cg, rfl, hown, hb2⟩
    clear e0
    go_wp2
    go_ret2
    refine ⟨G, cg, ret_kk HZ.out.symm (by rw [HR.out]), ?_, bs T1 hb2⟩
    rw [HR.out]
    exact own_base hown T1.size
  · have HR := Lib.hid (grpRes_1 hz)
    go_enter Try.func34, Try.ntmps34
    go_wp2_with fail
    refine (collate1_any _ _ (w.heap.size + 1) D c hs _ (cell_new (by simp) rfl) ra hc hl).mono ?_; rintro e w1 ⟨rfl, hb1⟩
    go_wp2
    go_ret2
    exact ⟨none, 0, ret_kk rfl (by rw [HR.out]; rfl), own_nilI _ _ HR.out, bs T0 hb1⟩

set_option maxHeartbeats 4000000 in
theorem SequenceErrors_any (D : Option Addr) (c : Nat) (hs : List Hd) (L : List (List Int)) (a b : Int) (w : World) (ha : RdD w w.heap.size D hs) (hL : cards hs = L) (hl : hs.length + tot hs ≤ 1048576) (hc : hs.length ≤ c) :
    Calls Try.prog 36 #[.slice D hs.length c, .agg #[.int .i64 a, .int .i64 b]] w fun e w' => ∃ G cg, e = .returned (.tuple #[.slice G (seqRes L a b).length cg, .int .i64 (codeK L a b)]) ∧
      w'.ownsRow w.heap.size 2 1 (.slice G (seqRes L a b).length cg) (seqRes L a b).length (ints (seqRes L a b)) ∧ Below w.heap.size w w' := by
  subst hL
  have T0 : Below w.heap.size w ((w.alloc (.cells #[.int .i64 a, .int .i64 b] 27)).alloc (.cells #[.slice D hs.length c] 24)) := ba (ba (b0 w) _) _
  have ra := (ha.a1 (.cells #[.int .i64 a, .int .i64 b] 27)).a1 (.cells #[.slice D hs.length c] 24)
  have HCL := Lib.hid (cards_length hs)
  by_cases hz : codeK (cards hs) a b = 0
  · obtain ⟨h1, h2, h3⟩ := codeK_zero hz
    obtain ⟨i, j, rfl, rfl, hij, hjw⟩ := fieldOk_nat h2
    have HZ := Lib.hid hz
    have H1 := Lib.hid h1
    have HR := Lib.hid (show seqRes (cards hs) (i : Int) (j : Int) = stepsL (cards hs) (i : Int) (j : Int) hs.length by rw [seqRes_0 hz, HCL.out])
    clear hz h1 h2 h3
    go_enter Try.func36, Try.ntmps36
    go_wp2_with fail
    refine (collate1_any _ _ (w.heap.size + 1) D c hs _ (cell_new (by simp) rfl) ra hc hl).mono ?_; rintro e w1 ⟨rfl, hb1⟩
    have k2 : w1.cell? ⟨w.heap.size, 0, none⟩ = some (.int .i64 (i : Int)) := cell_later hb1 (cell_alloc (cell_new rfl rfl) _)
    have k3 : w1.cell? ⟨w.heap.size, 1, none⟩ = some (.int .i64 (j : Int)) := cell_later hb1 (cell_alloc (cell_new rfl rfl) _)
    have e0 : codeK (cards hs) (i : Int) (j : Int) = 0 := HZ.out
    have T1 := bs T0 hb1
    go_wp2_with fail
    refine (steps_any _ _ hs i j _ (ra.up hb1) H1.out hij hjw hl).mono ?_; rintro e w2 ⟨G, cg, rfl, hown, hb2⟩
    clear e0
    go_wp2
    go_ret2
    refine ⟨G, cg, ret_kk HZ.out.symm (by rw [HR.out]), ?_, bs T1 hb2⟩
    rw [HR.out]
    exact own_base hown T1.size
  · have HR := Lib.hid (seqRes_1 hz)
    go_enter Try.func36, Try.ntmps36
    go_wp2_with fail
    refine (collate1_any _ _ (w.heap.size + 1) D c hs _ (cell_new (by simp) rfl) ra hc hl).mono ?_; rintro e w1 ⟨rfl, hb1⟩
    go_wp2
    go_ret2
    exact ⟨none, 0, ret_kk rfl (by rw [HR.out]; rfl), own_nilI _ _ HR.out, bs T0 hb1⟩

end Go.Proofs.Ytdppmlchabogaaa
