/- The first cards of groups; in the program and in the reference. -/
import Derived.Test.YtdppmlchabogaaaGroups
import Derived.Test.YtdppmlchabogaaaRunLaw
namespace Go.Proofs.Ytdppmlchabogaaa
open Go.RowKit

/-- The cards at some indices. -/
def pickL (L : List (List Int)) (zs : List Int) : List (List Int) := zs.map fun z => L.getD z.toNat []
theorem pickL_succ (L : List (List Int)) (zs : List Int) (k : Nat) (h : k < zs.length) : pickL L (zs.take (k + 1)) = pickL L (zs.take k) ++ [L.getD zs[k].toNat []] := by
  unfold pickL
  rw [List.take_succ_eq_append_getElem h, List.map_append]
  rfl
theorem pickL_length (L : List (List Int)) (zs : List Int) : (pickL L zs).length = zs.length := by simp [pickL]
theorem pickL_mem {L : List (List Int)} {zs : List Int} (h : ∀ z ∈ zs, ∃ i : Nat, z = i ∧ i < L.length) : ∀ x ∈ pickL L zs, x ∈ L := by
  intro x hx
  obtain ⟨z, hz, rfl⟩ := List.mem_map.1 hx
  obtain ⟨i, rfl, hi⟩ := h z hz
  simp only [Int.toNat_natCast, List.getD, List.getElem?_eq_getElem hi, Option.getD_some]
  exact List.getElem_mem hi
def fgRes (L : List (List Int)) (a b : Int) : List (List Int) := if codeK L a b = 0 then pickL L (grpL L a b L.length) else []
theorem fgRes_0 {L : List (List Int)} {a b : Int} (h : codeK L a b = 0) : fgRes L a b = pickL L (grpL L a b L.length) := by unfold fgRes; rw [if_pos h]
theorem fgRes_1 {L : List (List Int)} {a b : Int} (h : codeK L a b ≠ 0) : fgRes L a b = [] := by unfold fgRes; rw [if_neg h]
theorem sub_bound {M L : List (List Int)} (hs : ∀ x ∈ M, x ∈ L) (hn : M.length ≤ 40) (ho : deckOk L = true) {gs : List Hd} (h : cards gs = M) : gs.length + tot gs ≤ 840 := by
  subst h
  have := deckOk_sum (deckOk_sub hs hn ho)
  rwa [cards_length, ← tot_of_cards (gs := gs) rfl] at this
theorem fgRes_bound (L : List (List Int)) (a b : Int) {gs : List Hd} (h : cards gs = fgRes L a b) : gs.length + tot gs ≤ 840 := by
  by_cases hz : codeK L a b = 0
  · rw [fgRes_0 hz] at h
    refine sub_bound (pickL_mem fun z hz' => grpL_mem hz') ?_ (codeK_zero hz).1 h
    rw [pickL_length]
    have h1 := grpL_len L a b L.length
    have h2 := deckOk_len (codeK_zero hz).1
    omega
  · rw [fgRes_1 hz] at h
    have : gs = [] := by
      cases gs with
      | nil => rfl
      | cons x gs => simp [cards] at h
    subst this
    simp [tot]
/-- Behind k of the indices. -/
def FgR (L : List (List Int)) (zs : List Int) (G0 : Option Addr) (cg0 : Nat) (w wr : World) (o q : Value) : Prop := ∃ (k : Nat) (G : Option Addr) (cg : Nat) (gs : List Hd), k ≤ zs.length ∧ q = .int .i64 k ∧ o = .slice G gs.length cg ∧ gs.length ≤ k ∧ cards gs = pickL L (zs.take k) ∧
  ObD wr w.heap.size wr.heap.size 37 2 G cg gs ∧ Ob wr w.heap.size wr.heap.size 2 1 (.slice G0 zs.length cg0) zs.length (ints zs) ∧ Below w.heap.size w wr
theorem pick_at {hs : List Hd} {zs : List Int} (h : ∀ z ∈ zs, ∃ i : Nat, z = i ∧ i < (cards hs).length) {k : Nat} (hk : k < zs.length) : ∃ m : Nat, zs[k] = (m : Int) ∧ ∃ hm : m < hs.length, (cards hs).getD zs[k].toNat [] = hs[m].xs := by
  obtain ⟨m, hm, hml⟩ := h _ (List.getElem_mem hk)
  have hml' : m < hs.length := by rwa [cards_length] at hml
  exact ⟨m, hm, hml', by rw [hm]; simp [cards, hml']⟩

set_option maxRecDepth 20000 in
set_option maxHeartbeats 4000000 in
theorem FirstOfGroups_any (D : Option Addr) (c : Nat) (hs : List Hd) (L : List (List Int)) (a b : Int) (w : World) (ha : RdD w w.heap.size D hs) (hL : cards hs = L) (hl : hs.length + tot hs ≤ 1048576) (hc : hs.length ≤ c) :
    Calls Try.prog 35 #[.slice D hs.length c, .agg #[.int .i64 a, .int .i64 b]] w fun e w' => ∃ E ce gs, e = .returned (.tuple #[.slice E gs.length ce, .int .i64 (codeK L a b)]) ∧ cards gs = fgRes L a b ∧ ObD w' w.heap.size w'.heap.size 37 2 E ce gs ∧ Below w.heap.size w w' := by
  obtain ⟨j0, hj, hj0, hj1, hj2⟩ := info_parts info_cardD
  subst hL
  have T0 : Below w.heap.size w ((w.alloc (.cells #[.int .i64 a, .int .i64 b] 27)).alloc (.cells #[.slice D hs.length c] 24)) := ba (ba (b0 w) _) _
  have ra := (ha.a1 (.cells #[.int .i64 a, .int .i64 b] 27)).a1 (.cells #[.slice D hs.length c] 24)
  have HCL := Lib.hid (cards_length hs)
  by_cases hz : codeK (cards hs) a b = 0
  · obtain ⟨h1, h2, h3⟩ := codeK_zero hz
    obtain ⟨i, j, rfl, rfl, hij, hjw⟩ := fieldOk_nat h2
    have HZ := Lib.hid hz
    have H1 := Lib.hid h1
    have h40 : hs.length ≤ 40 := by have := deckOk_len h1; rwa [cards_length] at this
    have hgl := grpL_len (cards hs) (i : Int) (j : Int) hs.length
    have HMEM := Lib.hid (fun z (hz : z ∈ grpL (cards hs) (i : Int) (j : Int) hs.length) => (show ∃ q : Nat, z = q ∧ q < (cards hs).length by rw [HCL.out]; exact grpL_mem hz))
    have HCO := Lib.hid (groupsOf_any D c hs i j)
    obtain ⟨zs, hzs⟩ : ∃ zs, zs = grpL (cards hs) (i : Int) (j : Int) hs.length := ⟨_, rfl⟩
    have HR := Lib.hid (show fgRes (cards hs) (i : Int) (j : Int) = pickL (cards hs) zs by rw [fgRes_0 hz, HCL.out, hzs])
    rw [← hzs] at hgl HMEM HCO
    clear hz h1 h2 h3 hzs
    go_enter Try.func35, Try.ntmps35
    go_wp2_with fail
    refine (collate1_any _ _ (w.heap.size + 1) D c hs _ (cell_new (by simp) rfl) ra hc hl).mono ?_; rintro e w1 ⟨rfl, hb1⟩
    have k2 : w1.cell? ⟨w.heap.size, 0, none⟩ = some (.int .i64 (i : Int)) := cell_later hb1 (cell_alloc (cell_new rfl rfl) _)
    have k3 : w1.cell? ⟨w.heap.size, 1, none⟩ = some (.int .i64 (j : Int)) := cell_later hb1 (cell_alloc (cell_new rfl rfl) _)
    have e0 : codeK (cards hs) (i : Int) (j : Int) = 0 := HZ.out
    have T1 := bs T0 hb1
    have rbase := ra.up hb1
    have r1 := rbase.a1 (.cells #[] 37)
    have k4 := cell_alloc k2 (.cells #[] 37)
    have k5 := cell_alloc k3 (.cells #[] 37)
    clear hb1 ra k2 k3 ha
    go_wp2_with fail
    refine (HCO.out _ r1 H1.out hij hjw hl).mono ?_; rintro e w2 ⟨G0, cg0, rfl, hownZ, hb2⟩
    have hrow0 : w2.ownsRow w1.heap.size 37 1 (.slice (some ⟨w1.heap.size, 0, none⟩) 0 0) 0 [] := own_bs (own_lit w1 #[] 0 rfl (Nat.le_refl _) (by omega) rfl) hb2
    have T2 : Below w1.heap.size w1 w2 := bs (ba (b0 w1) (.cells #[] 37)) hb2
    have ho2 : Ob w2 w1.heap.size w2.heap.size 2 1 (.slice G0 zs.length cg0) zs.length (ints zs) := (Ob.of hownZ).mono (by simp) (Nat.le_refl _)
    clear e0 hb2 r1 k4 k5 hownZ
    go_wp2
    go_loopw [7, 9, 22] (fun o _ q wr => FgR (cards hs) zs G0 cg0 w1 wr o q) (fun _ _ q _ => zs.length - (intOf q).toNat)
    case atStart => exact ⟨0, _, _, [], Nat.zero_le _, rfl, rfl, Nat.le_refl _, rfl, ObD.empty (Ob.of hrow0), ho2, T2⟩
    case round =>
      obtain ⟨wo, rfl⟩ : ∃ wo : World, wo = wr := ⟨_, rfl⟩
      obtain ⟨k, G, cg, gs, hk, rfl, rfl, hgk, hgc, hob, hoo, hbw⟩ := hrel
      have HGC := Lib.hid hgc
      clear hgc
      by_cases hlt : k < zs.length
      · obtain ⟨m, hm, hml, hgd⟩ := pick_at HMEM.out hlt
        have HS := Lib.hid (show pickL (cards hs) (zs.take (k + 1)) = pickL (cards hs) (zs.take k) ++ [hs[m].xs] by rw [pickL_succ _ _ _ hlt, hgd])
        have hra := rbase.up hbw
        obtain ⟨bz, oz, hG0, _, hcz⟩ := hoo.rd.at_ hlt
        have dz := hcz k _ (ints_get _ k hlt)
        rw [hm] at dz
        have rc := hra.card_at hml
        have hlc : hs[m].xs.length ≤ 1048576 := by have := tot_at hs m hml; omega
        obtain ⟨b1, o1, hD, _, hcell⟩ := hra.at_ hml
        have kc := hcell m hml
        have i1 : (k : Int) < (zs.length : Int) := by omega
        have i2 : (m : Int) < (hs.length : Int) := by omega
        subst hG0
        subst hD
        have hsz := hbw.size
        clear hm hgd hcz hcell hra
        go_wp2_with fail
        refine (newCard_any _ _ hs[m].xs _ rc hlc).mono ?_; rintro e w5 ⟨B, d, rfl, ho5, hb5⟩
        have hobN := hob.bs hb5
        have hooN := hoo.bs hb5
        have HCARD := Lib.hid (Ob.of ho5)
        have TB := bs hbw hb5
        have hbase := TB.size
        have hz5 := hb5.size
        clear ho5 hob hoo hb5 hbw rc kc dz
        go_wp2_with (at_builtin; refine wpList_ap rfl (.tmp 26) (.tmp 32) 24 rfl w1.heap.size 37 j0 _ 1 24 Try.underlying24 hj hj0 hj1 hj2 rfl (by omega) _ gs.length _ (heads gs) rfl w5 hobN.row.1 1 #[.slice B hs[m].xs.length d] w5.heap.size rfl rfl rfl (one_slice _ _ _) (by omega) (by omega) (by omega) hbase ?_; intro gg cap w6 hown6 hb6 hg6 _ _)
        have HO := Lib.hid (hobN.snoc (by decide) HCARD.out (Nat.le_refl _) hsz hown6 hg6 hz5 (Nat.le_refl _))
        have HOO := Lib.hid ((hooN.kept hg6 (own_ne hooN.1 hobN.row.1 (by decide))).mono (Nat.le_refl _) (show wo.heap.size ≤ w6.heap.size from Nat.le_trans hz5 hg6.size))
        have HB := Lib.hid (TB.trans hb6)
        clear hown6 hb6 hg6 hobN hooN TB
        go_wp2
        go_roundw
        case rel =>
          have P : FgR (cards hs) zs (some ⟨bz, oz, none⟩) cg0 w1 w6 (.slice (some ⟨gg, 0, none⟩) (gs.length + 1) cap) (.int .i64 ((k : Int) + 1)) := ⟨k + 1, some ⟨gg, 0, none⟩, cap, gs ++ [⟨B, d, hs[m].xs⟩], by omega, by go_num, by rw [List.length_append]; rfl, by rw [List.length_append]; simp only [List.length_singleton]; omega, by rw [HS.out, cards_append, HGC.out]; rfl, HO.out, HOO.out, HB.out⟩
          first | exact P | exact ⟨_, P, rfl⟩ | exact ⟨_, _, P, rfl, rfl⟩ | exact ⟨_, _, _, P, rfl, rfl, rfl⟩ | exact ⟨_, _, _, _, P, rfl, rfl, rfl, rfl⟩ | exact ⟨_, _, _, _, _, P, rfl, rfl, rfl, rfl, rfl⟩ | exact ⟨_, _, _, _, _, _, P, rfl, rfl, rfl, rfl, rfl, rfl⟩ | exact ⟨_, _, _, _, _, _, _, P, rfl, rfl, rfl, rfl, rfl, rfl, rfl⟩ | exact ⟨_, _, _, _, _, _, _, _, P, rfl, rfl, rfl, rfl, rfl, rfl, rfl, rfl⟩
        case measure => simp [intOf]; omega
      · obtain rfl : k = zs.length := by omega
        have HK := Lib.hid (show cards gs = fgRes (cards hs) (i : Int) (j : Int) by rw [HGC.out, HR.out, List.take_of_length_le (Nat.le_refl _)])
        go_wp2
        go_ret2
        exact ⟨G, cg, gs, ret_dd HZ.out.symm, HK.out, hob.mono T1.size (Nat.le_refl _), bs T1 hbw⟩
  · have HR := Lib.hid (fgRes_1 hz)
    go_enter Try.func35, Try.ntmps35
    go_wp2_with fail
    refine (collate1_any _ _ (w.heap.size + 1) D c hs _ (cell_new (by simp) rfl) ra hc hl).mono ?_; rintro e w1 ⟨rfl, hb1⟩
    go_wp2
    go_ret2
    exact ⟨none, 0, [], ret_dd rfl, HR.out.symm, ObD.nil _ _ _ _ _, bs T0 hb1⟩

end Go.Proofs.Ytdppmlchabogaaa
