/- l09Merge; in the reference. -/
import Derived.Test.YtdppmlchabogaaaMergeLaw
import Derived.Test.YtdppmlchabogaaaMatchAll
namespace Go.Proofs.Ytdppmlchabogaaa
open Go.RowKit

theorem mgO_length (key : Int → Int) (la lb : Nat) : ∀ i, (mgO key la lb i).length = i + mgK key la lb i
  | 0 => by simp [mgO, mgK]
  | i + 1 => by
    have ih := mgO_length key la lb i
    have hk := (mgK_ok (key := key) (la := la) (lb := lb) i).1
    simp only [mgO, List.length_append, List.length_singleton, seg_length, ih]
    omega
theorem RdD.drop {w : World} {B : Nat} {D : Option Addr} {hs : List Hd} (h : RdD w B D hs) {D' : Option Addr} {k : Nat} (hr : Rd w B 1 D' (hs.drop k).length (heads (hs.drop k))) : RdD w B D' (hs.drop k) :=
  ⟨hr, fun x hx => h.card x (List.mem_of_mem_drop hx), fun x hx => h.cap x (List.mem_of_mem_drop hx)⟩
theorem heads_drop (hs : List Hd) (k : Nat) : heads (hs.drop k) = (heads hs).drop k := by simp [heads]
theorem tot_drop_le (hs : List Hd) (k : Nat) : tot (hs.drop k) ≤ tot hs := by
  have := tot_append (hs.take k) (hs.drop k)
  rw [List.take_append_drop] at this
  omega
theorem l02Copy_n (n : Nat) (D : Option Addr) (c : Nat) (hs : List Hd) (w : World) (hn : hs.length = n) (ha : RdD w w.heap.size D hs) (hl : hs.length + tot hs ≤ 1048576) :
    Calls Try.prog 226 #[.slice D n c] w fun e w' => ∃ D' c' gs, e = .returned (.slice D' gs.length c') ∧ cards gs = cards hs ∧ ObD w' w.heap.size w'.heap.size 37 2 D' c' gs ∧ Below w.heap.size w w' := by
  subst hn
  exact l02Copy_any D c hs w ha hl
/-- The cards of some places have been laid. -/
def MgR (LM : List (List Int)) (idx : List Int) (w wr : World) (o : Value) : Prop := ∃ (G : Option Addr) (cg : Nat) (gs : List Hd), o = .slice G gs.length cg ∧ gs.length = idx.length ∧ cards gs = pickL LM idx ∧ ObD wr w.heap.size wr.heap.size 37 2 G cg gs ∧ Below w.heap.size w wr
theorem MgR.snoc {LM : List (List Int)} {idx : List Int} {z : Int} {x : List Int} {gs : List Hd} {B : Option Addr} {d : Nat} (h : cards gs = pickL LM idx) (hx : LM.getD z.toNat [] = x) : cards (gs ++ [⟨B, d, x⟩]) = pickL LM (idx ++ [z]) := by
  rw [cards_append, pickL_append, h, ← hx]
  rfl

set_option maxRecDepth 20000 in
set_option maxHeartbeats 8000000 in
theorem l09Merge_any (D E : Option Addr) (c ce : Nat) (hs ks : List Hd) (K1 K2 : Option Addr) (n1 n2 c1 c2 : Nat) (i0 j0 : Nat) (w : World) (ha : RdD w w.heap.size D hs) (hb : RdD w w.heap.size E ks) (hoa : deckOk (cards hs) = true) (hob : deckOk (cards ks) = true) (hij : i0 < j0) (hja : j0 ≤ deckW (cards hs)) (hjb : j0 ≤ deckW (cards ks))
    (hva : haveF (cards hs) (i0 : Int) (j0 : Int) = true) (hvb : haveF (cards ks) (i0 : Int) (j0 : Int) = true) (hn1 : n1 = hs.length) (hn2 : n2 = ks.length) (hk1 : Rd w w.heap.size 1 K1 n1 (strs (keysL (cards hs) (i0 : Int) (j0 : Int)))) (hk2 : Rd w w.heap.size 1 K2 n2 (strs (keysL (cards ks) (i0 : Int) (j0 : Int))))
    (hl : hs.length + tot hs ≤ 1048576) (hl' : ks.length + tot ks ≤ 1048576) (hce : ks.length ≤ ce) :
    Calls Try.prog 136 #[.slice D hs.length c, .slice E ks.length ce, .slice K1 n1 c1, .slice K2 n2 c2] w fun e w' => ∃ G cg gs, e = .returned (.slice G gs.length cg) ∧
      cards gs = pickL (cards hs ++ cards ks) (mgF (keyZ (cards hs ++ cards ks) (i0 : Int) (j0 : Int)) hs.length ks.length) ∧ ObD w' w.heap.size w'.heap.size 37 2 G cg gs ∧ Below w.heap.size w w' := by
  obtain ⟨q0, hq0, hq1, hq2, hq3⟩ := info_parts info_cardD
  have HCA := Lib.hid (cards_length hs)
  have HCB := Lib.hid (cards_length ks)
  have HOA := Lib.hid hoa
  have HOB := Lib.hid hob
  have HVA := Lib.hid hva
  have HVB := Lib.hid hvb
  have ha40 : hs.length ≤ 40 := by have := deckOk_len hoa; rwa [cards_length] at this
  have hb40 : ks.length ≤ 40 := by have := deckOk_len hob; rwa [cards_length] at this
  obtain ⟨LM, hLM⟩ : ∃ LM, LM = cards hs ++ cards ks := ⟨_, rfl⟩
  obtain ⟨key, hkey⟩ : ∃ key, key = keyZ LM (i0 : Int) (j0 : Int) := ⟨_, rfl⟩
  rw [← hLM, ← hkey]
  obtain ⟨la, hla⟩ : ∃ la, la = hs.length := ⟨_, rfl⟩
  obtain ⟨lb, hlb⟩ : ∃ lb, lb = ks.length := ⟨_, rfl⟩
  have HLA := Lib.hid hla
  have HLB := Lib.hid hlb
  have HL1 := Lib.hid (fun (i : Nat) (h : i < hs.length) => (show LM.getD ((i : Int)).toNat [] = hs[i].xs by rw [hLM, Int.toNat_natCast, getD_left (by rw [cards_length]; exact h), cards_at]))
  have HL2 := Lib.hid (fun (q : Nat) (h : q < ks.length) => (show LM.getD (((la + q : Nat) : Int)).toNat [] = ks[q].xs by rw [hLM, Int.toNat_natCast, hla, ← cards_length hs, getD_right (by rw [cards_length]; exact h), cards_at]))
  have HKL := Lib.hid (fun (i : Nat) (h : i < hs.length) => (show key (i : Int) = keyZ (cards hs) (i0 : Int) (j0 : Int) (i : Int) by rw [hkey, hLM, keyZ_left (by rw [cards_length]; exact h)]))
  have HKR := Lib.hid (fun (q : Nat) (h : q < ks.length) => (show key ((la + q : Nat) : Int) = keyZ (cards ks) (i0 : Int) (j0 : Int) (q : Int) by rw [hkey, hLM, hla, ← cards_length hs, keyZ_right (by rw [cards_length]; exact h)]))
  have HCMP := Lib.hid (fun (i q : Nat) (h : i < hs.length) (h' : q < ks.length) => (show cmpT (textL (part ks[q].xs (i0 : Int) (j0 : Int))) (textL (part hs[i].xs (i0 : Int) (j0 : Int))) < 0 ↔ key ((la + q : Nat) : Int) < key (i : Int) by
    have e1 : (cards ks)[q]'(by rw [cards_length]; exact h') = ks[q].xs := cards_at _ _ _
    have e2 : (cards hs)[i]'(by rw [cards_length]; exact h) = hs[i].xs := cards_at _ _ _
    have v1 := haveF_at hvb (k := q) (by rw [cards_length]; exact h')
    have v2 := haveF_at hva (k := i) (by rw [cards_length]; exact h)
    have p1 := (part_deck hob hij hjb (k := q) (by rw [cards_length]; exact h')).1
    have p2 := (part_deck hoa hij hja (k := i) (by rw [cards_length]; exact h)).1
    rw [e1] at v1 p1
    rw [e2] at v2 p2
    rw [cmpT_text v1 v2]
    unfold cmpR
    rw [(cmpN_num _ _ (by rw [List.length_map, List.length_map, p1, p2]) rank_mem rank_mem).1, HKL.out i h, HKR.out q h']
    unfold keyZ
    simp only [Int.toNat_natCast]
    rw [show (cards ks).getD q [] = ks[q].xs by simp [cards, h'], show (cards hs).getD i [] = hs[i].xs by simp [cards, h]]))
  have HSEG := Lib.hid (fun (x : Nat) (h : x ≤ ks.length) => (show pickL LM (seg la x lb) = (cards ks).drop x by
    rw [hLM, hla, ← cards_length hs, pick_seg _ _ (by rw [hlb, cards_length]; exact Nat.le_refl _)]
    exact List.take_of_length_le (by rw [List.length_drop, cards_length, hlb]; exact Nat.le_refl _)))
  have HTL := Lib.hid (fun (i q : Nat) (h : i < hs.length) (h' : q < ks.length) => (show (textL (part ks[q].xs (i0 : Int) (j0 : Int))).length = (textL (part hs[i].xs (i0 : Int) (j0 : Int))).length ∧ (textL (part ks[q].xs (i0 : Int) (j0 : Int))).length ≤ 1048576 by
    have p1 := part_deck hob hij hjb (k := q) (by rw [cards_length]; exact h')
    have p2 := part_deck hoa hij hja (k := i) (by rw [cards_length]; exact h)
    have p3 := (cardOk_len (deckOk_card hob (k := q) (by rw [cards_length]; exact h')).1).2
    rw [cards_at] at p1 p2 p3
    rw [textL_length, textL_length, p1.1, p2.1]
    exact ⟨rfl, by omega⟩))
  subst hn1 hn2
  clear hLM hkey hoa hob hva hvb hla hlb
  go_enter Try.func136, Try.ntmps136
  go_wp2
  go_loopw [9, 10, 11] (fun o vk vi wr => ∃ i : Nat, i ≤ hs.length ∧ vi = .int .i64 i ∧ vk = .int .i64 (mgK key la lb i) ∧ MgR LM (mgO key la lb i) w wr o) (fun _ _ vi _ => hs.length - (intOf vi).toNat)
  case atStart => exact ⟨0, Nat.zero_le _, rfl, rfl, some ⟨w.heap.size, 0, none⟩, 0, [], rfl, rfl, rfl, ObD.empty (Ob.of (own_lit w #[] 0 rfl (Nat.le_refl _) (by omega) rfl)), ba (b0 w) (.cells #[] 37)⟩
  case round =>
    obtain ⟨wo, rfl⟩ : ∃ wo : World, wo = wr := ⟨_, rfl⟩
    obtain ⟨i, hi, rfl, rfl, hmg⟩ := hrel
    have hml := Lib.hid (mgO_length key la lb i)
    have hmk := (mgK_ok (key := key) (la := la) (lb := lb) i)
    have HMK := Lib.hid hmk
    clear hmk
    by_cases hlt : i < hs.length
    · have i1 : (i : Int) < (hs.length : Int) := by omega
      go_wp2
      go_loopw [9, 10] (fun o vk wr => ∃ k : Nat, mgK key la lb i ≤ k ∧ k ≤ lb ∧ vk = .int .i64 k ∧ Hid (upTo (fun q => decide (key ((la + q : Nat) : Int) < key (i : Int))) lb k = mgK key la lb (i + 1)) ∧ MgR LM (mgO key la lb i ++ seg la (mgK key la lb i) k) w wr o) (fun _ vk _ => lb - (intOf vk).toNat)
      case atStart => exact ⟨mgK key la lb i, Nat.le_refl _, HMK.out.2.2.1, rfl, Lib.hid rfl, by rw [seg_nil, List.append_nil]; exact hmg⟩
      case round =>
        obtain ⟨wq, rfl⟩ : ∃ wq : World, wq = wr := ⟨_, rfl⟩
        obtain ⟨k, hkm, hkn, rfl, HUP, G, cg, gs, rfl, hgl, hgc, hob, hbw⟩ := hrel
        have HGC := Lib.hid hgc
        have HGL := Lib.hid (show gs.length = i + k by rw [hgl, List.length_append, hml.out, seg_length]; omega)
        have hgs : gs.length ≤ 1000 := by have := HGL.out; have := HLB.out; omega
        have raq := ha.up hbw
        have rbq := hb.up hbw
        have y1 := hk1.up hbw
        have y2 := hk2.up hbw
        clear hgl hgc
        by_cases hp : k < lb ∧ key ((la + k : Nat) : Int) < key (i : Int)
        · obtain ⟨hkl, hkk⟩ := hp
          have hkb : k < ks.length := by rw [← HLB.out]; exact hkl
          have HUP2 := Lib.hid (show upTo (fun q => decide (key ((la + q : Nat) : Int) < key (i : Int))) lb (k + 1) = mgK key la lb (i + 1) by rw [← HUP]; exact upTo_yes hkl (decide_eq_true hkk))
          have HIDX := Lib.hid (show mgO key la lb i ++ seg la (mgK key la lb i) (k + 1) = (mgO key la lb i ++ seg la (mgK key la lb i) k) ++ [((la + k : Nat) : Int)] by rw [seg_snoc _ _ _ hkm, List.append_assoc])
          have hkc := keysL_at (cards ks) (i0 : Int) (j0 : Int) k (by rw [cards_length]; exact hkb)
          have hic := keysL_at (cards hs) (i0 : Int) (j0 : Int) i (by rw [cards_length]; exact hlt)
          rw [cards_at] at hkc hic
          obtain ⟨s, hs'⟩ : ∃ s, s = textL (part ks[k].xs (i0 : Int) (j0 : Int)) := ⟨_, rfl⟩
          obtain ⟨t, ht'⟩ : ∃ t, t = textL (part hs[i].xs (i0 : Int) (j0 : Int)) := ⟨_, rfl⟩
          obtain ⟨z, hz⟩ : ∃ z, z = cmpT s t := ⟨_, rfl⟩
          have HZ := Lib.hid hz
          have HST := Lib.hid (show s.length = t.length ∧ s.length ≤ 1048576 by rw [hs', ht']; exact HTL.out i k hlt hkb)
          have hlv : z < 0 := by rw [hz, hs', ht', HCMP.out i k hlt hkb]; exact hkk
          obtain ⟨b2, o2, hK2, _, hc2⟩ := y2.at_ hkb
          have d1 := hc2 k _ (strs_get _ k (by rw [keysL_length, cards_length]; exact hkb))
          rw [hkc, ← hs'] at d1
          obtain ⟨b3, o3, hK1, _, hc3⟩ := y1.at_ hlt
          have d2 := hc3 i _ (strs_get _ i (by rw [keysL_length, cards_length]; exact hlt))
          rw [hic, ← ht'] at d2
          have z1 : (k : Int) < (ks.length : Int) := by omega
          have l1 := fun x : Later wq => lat_cell x d1
          have l2 := fun x : Later wq => lat_cell x d2
          subst hK2
          subst hK1
          clear hz hs' ht' hkc hic hc2 hc3 d1 d2 hkk
          go_wp2_with fail
          refine wp_region_later (by kernel_rfl) (by kernel_rfl) ?_
          repeat (go_big_quiet_step ((go_at_call 122; exact lat_pure (l03Compare_z s t z _ HZ.out HST.out.1 HST.out.2))))
          refine wpQuiet_nil ?_
          intro w4 hb4
          have hob4 := hob.bs hb4
          have TB4 := bs hbw hb4
          have rb4 := rbq.up hb4
          have rc := rb4.card_at hkb
          have hlc : ks[k].xs.length ≤ 1048576 := by have := tot_at ks k hkb; omega
          have hz4 := hb4.size
          clear l1 l2 hb4 hob hbw raq rbq y1 y2
          obtain ⟨b1, o1, hE, _, hcell⟩ := rb4.at_ hkb
          have kc := hcell k hkb
          have i2 : (k : Int) < (ks.length : Int) := by omega
          subst hE
          clear hcell
          go_wp2_with fail
          refine (l02Own_any b1 (o1 + k) ks[k].a ks[k].c ks[k].xs _ kc rc hlc).mono ?_; rintro e w5 ⟨B, d, rfl, ho5, hb5⟩
          have hobN := hob4.bs hb5
          have HCARD := Lib.hid (Ob.of ho5)
          have TB := bs TB4 hb5
          have hbase := TB.size
          have hz5 := hb5.size
          have hsz4 := TB4.size
          clear ho5 hob4 hb5 TB4 rc kc rb4
          go_wp2_with (at_builtin; refine wpList_ap rfl (.tmp 35) (.tmp 40) 24 rfl w.heap.size 37 q0 _ 1 24 Try.underlying24 hq0 hq1 hq2 hq3 rfl (by omega) _ gs.length _ (heads gs) rfl w5 hobN.row.1 1 #[.slice B ks[k].xs.length d] w5.heap.size rfl rfl rfl (one_slice _ _ _) (by omega) (by omega) (by omega) hbase ?_; intro gg cap w6 hown6 hb6 hg6 _ _)
          have HO := Lib.hid (hobN.snoc (by decide) HCARD.out hz4 hsz4 hown6 hg6 (Nat.le_trans hz4 hz5) (Nat.le_refl _))
          have HB := Lib.hid (TB.trans hb6)
          clear hown6 hb6 hg6 hobN TB
          go_wp2
          go_roundw
          case rel =>
            have P : MgR LM (mgO key la lb i ++ seg la (mgK key la lb i) (k + 1)) w w6 (.slice (some ⟨gg, 0, none⟩) (gs.length + 1) cap) := ⟨some ⟨gg, 0, none⟩, cap, gs ++ [⟨B, d, ks[k].xs⟩], by rw [List.length_append]; rfl, by rw [List.length_append, HIDX.out, List.length_append, List.length_singleton, List.length_singleton, HGL.out, List.length_append, hml.out, seg_length]; omega, by rw [HIDX.out]; exact MgR.snoc HGC.out (HL2.out k hkb), HO.out, HB.out⟩
            exact ⟨k + 1, by omega, by omega, by go_num, HUP2.out, P⟩
          case measure => (simp [intOf]; try omega)
        · have HK := Lib.hid (show k = mgK key la lb (i + 1) by rw [← HUP]; exact (upTo_no (fun h => decide_eq_false (fun h2 => hp ⟨h, h2⟩))).symm)
          have HIDX := Lib.hid (show mgO key la lb (i + 1) = (mgO key la lb i ++ seg la (mgK key la lb i) k) ++ [(i : Int)] by rw [HK.out]; rfl)
          by_cases hkl : k < lb
          · have hkb : k < ks.length := by rw [← HLB.out]; exact hkl
            have hkk : ¬ key ((la + k : Nat) : Int) < key (i : Int) := fun h => hp ⟨hkl, h⟩
            have hkc := keysL_at (cards ks) (i0 : Int) (j0 : Int) k (by rw [cards_length]; exact hkb)
            have hic := keysL_at (cards hs) (i0 : Int) (j0 : Int) i (by rw [cards_length]; exact hlt)
            rw [cards_at] at hkc hic
            obtain ⟨s, hs'⟩ : ∃ s, s = textL (part ks[k].xs (i0 : Int) (j0 : Int)) := ⟨_, rfl⟩
            obtain ⟨t, ht'⟩ : ∃ t, t = textL (part hs[i].xs (i0 : Int) (j0 : Int)) := ⟨_, rfl⟩
            obtain ⟨z, hz⟩ : ∃ z, z = cmpT s t := ⟨_, rfl⟩
            have HZ := Lib.hid hz
            have HST := Lib.hid (show s.length = t.length ∧ s.length ≤ 1048576 by rw [hs', ht']; exact HTL.out i k hlt hkb)
            have hlv : ¬ z < 0 := by rw [hz, hs', ht', HCMP.out i k hlt hkb]; exact hkk
            obtain ⟨b2, o2, hK2, _, hc2⟩ := y2.at_ hkb
            have d1 := hc2 k _ (strs_get _ k (by rw [keysL_length, cards_length]; exact hkb))
            rw [hkc, ← hs'] at d1
            obtain ⟨b3, o3, hK1, _, hc3⟩ := y1.at_ hlt
            have d2 := hc3 i _ (strs_get _ i (by rw [keysL_length, cards_length]; exact hlt))
            rw [hic, ← ht'] at d2
            have z1 : (k : Int) < (ks.length : Int) := by omega
            have l1 := fun x : Later wq => lat_cell x d1
            have l2 := fun x : Later wq => lat_cell x d2
            subst hK2
            subst hK1
            clear hz hs' ht' hkc hic hc2 hc3 d1 d2 hkk
            go_wp2_with fail
            refine wp_region_later (by kernel_rfl) (by kernel_rfl) ?_
            repeat (go_big_quiet_step ((go_at_call 122; exact lat_pure (l03Compare_z s t z _ HZ.out HST.out.1 HST.out.2))))
            refine wpQuiet_nil ?_
            intro w4 hb4
            clear l1 l2
            have hob4 := hob.bs hb4
            have TB4 := bs hbw hb4
            have ra4 := raq.up hb4
            have rc := ra4.card_at hlt
            have hlc : hs[i].xs.length ≤ 1048576 := by have := tot_at hs i hlt; omega
            have hz4 := hb4.size
            clear hb4 hob hbw raq rbq y1 y2
            obtain ⟨b1, o1, hD, _, hcell⟩ := ra4.at_ hlt
            have kc := hcell i hlt
            subst hD
            clear hcell
            go_wp2_with fail
            refine (l02Own_any b1 (o1 + i) hs[i].a hs[i].c hs[i].xs _ kc rc hlc).mono ?_; rintro e w5 ⟨B, d, rfl, ho5, hb5⟩
            have hobN := hob4.bs hb5
            have HCARD := Lib.hid (Ob.of ho5)
            have TB := bs TB4 hb5
            have hbase := TB.size
            have hz5 := hb5.size
            have hsz4 := TB4.size
            clear ho5 hob4 hb5 TB4 rc kc ra4
            go_wp2_with (at_builtin; refine wpList_ap rfl (.tmp 44) (.tmp 49) 24 rfl w.heap.size 37 q0 _ 1 24 Try.underlying24 hq0 hq1 hq2 hq3 rfl (by omega) _ gs.length _ (heads gs) rfl w5 hobN.row.1 1 #[.slice B hs[i].xs.length d] w5.heap.size rfl rfl rfl (one_slice _ _ _) (by omega) (by omega) (by omega) hbase ?_; intro gg cap w6 hown6 hb6 hg6 _ _)
            have HO := Lib.hid (hobN.snoc (by decide) HCARD.out hz4 hsz4 hown6 hg6 (Nat.le_trans hz4 hz5) (Nat.le_refl _))
            have HB := Lib.hid (TB.trans hb6)
            clear hown6 hb6 hg6 hobN TB
            go_wp2
            go_roundw
            case rel =>
              have P : MgR LM (mgO key la lb (i + 1)) w w6 (.slice (some ⟨gg, 0, none⟩) (gs.length + 1) cap) := ⟨some ⟨gg, 0, none⟩, cap, gs ++ [⟨B, d, hs[i].xs⟩], by rw [List.length_append]; rfl, by rw [List.length_append, HIDX.out, List.length_append, List.length_singleton, List.length_singleton, HGL.out, List.length_append, hml.out, seg_length]; omega, by rw [HIDX.out]; exact MgR.snoc HGC.out (HL1.out i hlt), HO.out, HB.out⟩
              exact ⟨i + 1, by omega, by go_num, by rw [← HK.out], P⟩
            case measure => (simp [intOf]; try omega)
          · have i3 : ¬ (k : Int) < (ks.length : Int) := by have := HLB.out; omega
            have i4 : ¬ k < ks.length := by omega
            go_wp2_with fail
            refine wp_region_later (by kernel_rfl) (by kernel_rfl) ?_
            repeat (go_big_quiet_step (fail))
            refine wpQuiet_nil ?_
            intro w4 hb4
            have hob4 := hob.bs hb4
            have TB4 := bs hbw hb4
            have ra4 := raq.up hb4
            have rc := ra4.card_at hlt
            have hlc : hs[i].xs.length ≤ 1048576 := by have := tot_at hs i hlt; omega
            have hz4 := hb4.size
            clear hb4 hob hbw raq rbq y1 y2
            obtain ⟨b1, o1, hD, _, hcell⟩ := ra4.at_ hlt
            have kc := hcell i hlt
            subst hD
            clear hcell
            go_wp2_with fail
            refine (l02Own_any b1 (o1 + i) hs[i].a hs[i].c hs[i].xs _ kc rc hlc).mono ?_; rintro e w5 ⟨B, d, rfl, ho5, hb5⟩
            have hobN := hob4.bs hb5
            have HCARD := Lib.hid (Ob.of ho5)
            have TB := bs TB4 hb5
            have hbase := TB.size
            have hz5 := hb5.size
            have hsz4 := TB4.size
            clear ho5 hob4 hb5 TB4 rc kc ra4
            go_wp2_with (at_builtin; refine wpList_ap rfl (.tmp 44) (.tmp 49) 24 rfl w.heap.size 37 q0 _ 1 24 Try.underlying24 hq0 hq1 hq2 hq3 rfl (by omega) _ gs.length _ (heads gs) rfl w5 hobN.row.1 1 #[.slice B hs[i].xs.length d] w5.heap.size rfl rfl rfl (one_slice _ _ _) (by omega) (by omega) (by omega) hbase ?_; intro gg cap w6 hown6 hb6 hg6 _ _)
            have HO := Lib.hid (hobN.snoc (by decide) HCARD.out hz4 hsz4 hown6 hg6 (Nat.le_trans hz4 hz5) (Nat.le_refl _))
            have HB := Lib.hid (TB.trans hb6)
            clear hown6 hb6 hg6 hobN TB
            go_wp2
            go_roundw
            case rel =>
              have P : MgR LM (mgO key la lb (i + 1)) w w6 (.slice (some ⟨gg, 0, none⟩) (gs.length + 1) cap) := ⟨some ⟨gg, 0, none⟩, cap, gs ++ [⟨B, d, hs[i].xs⟩], by rw [List.length_append]; rfl, by rw [List.length_append, HIDX.out, List.length_append, List.length_singleton, List.length_singleton, HGL.out, List.length_append, hml.out, seg_length]; omega, by rw [HIDX.out]; exact MgR.snoc HGC.out (HL1.out i hlt), HO.out, HB.out⟩
              exact ⟨i + 1, by omega, by go_num, by rw [← HK.out], P⟩
            case measure => (simp [intOf]; try omega)
    · obtain rfl : i = hs.length := by omega
      obtain ⟨G, cg, gs, rfl, hgl, hgc, hobg, hbw⟩ := hmg
      obtain ⟨k, hk⟩ : ∃ k, k = mgK key la lb hs.length := ⟨_, rfl⟩
      have HKK := Lib.hid hk
      have HGC := Lib.hid hgc
      have HGL := Lib.hid (show gs.length = hs.length + k by rw [hgl, hml.out, ← hk])
      have hkb : k ≤ ks.length := by rw [hk, ← HLB.out]; exact HMK.out.2.2.1
      have hgs : gs.length ≤ 1000 := by have := HGL.out; omega
      have HFIN := Lib.hid (show pickL LM (mgF key hs.length ks.length) = pickL LM (mgO key la lb hs.length) ++ (cards ks).drop k by
        rw [← HLA.out, ← HLB.out]
        show pickL LM (mgO key la lb la ++ seg la (mgK key la lb la) lb) = _
        rw [pickL_append, HSEG.out _ (by rw [← HLB.out]; exact (mgK_ok (key := key) (la := la) (lb := lb) la).2.2.1)]
        rw [hk, ← HLA.out])
      rw [← hk]
      have rbq := hb.up hbw
      clear hgl hgc hk
      by_cases hkl : k < ks.length
      · obtain ⟨b1, o1, hE, _, _⟩ := rbq.at_ hkl
        subst hE
        have hck : ¬ ce = k := by omega
        have z1 : (k : Int) ≤ (ks.length : Int) := by omega
        have z2 : (ks.length : Int) ≤ (ce : Int) := by omega
        have hrd : RdD wo wo.heap.size (some ⟨b1, o1 + k, none⟩) (ks.drop k) := rbq.drop (by
          have h := rbq.row.cut (i := k) (j := ks.length) (cap := ce) hkb (Nat.le_refl _) hce
          rw [if_neg hck] at h
          rw [heads_drop, List.length_drop]
          have e : ((heads ks).drop (k * 1)).take ((ks.length - k) * 1) = (heads ks).drop k := by
            rw [Nat.mul_one, Nat.mul_one]
            exact List.take_of_length_le (by rw [List.length_drop, heads_length]; exact Nat.le_refl _)
          rw [e] at h
          have e2 : Option.map (fun x : Addr => x.add (k * 1)) (some (⟨b1, o1, none⟩ : Addr)) = some ⟨b1, o1 + k, none⟩ := by simp only [Option.map_some, Nat.mul_one, Addr.add_lit]
          rw [e2] at h
          exact h)
        go_wp2_with fail
        refine (l02Copy_n (ks.length - k) _ _ (ks.drop k) _ (by rw [List.length_drop] <;> omega) hrd (by have := tot_drop_le ks k; rw [List.length_drop]; omega)).mono ?_; rintro e w5 ⟨D5, c5, g5, rfl, hcc5, ho5, hb5⟩
        have HC5 := Lib.hid hcc5
        have hlen5 : g5.length ≤ 1000 := by have := (cards_same hcc5).1; rw [List.length_drop] at this; omega
        have hobN := hobg.bs hb5
        have TB := bs hbw hb5
        have hbase := TB.size
        have hz5 := hb5.size
        have hszo := hbw.size
        clear hcc5 hobg hb5 hbw hrd rbq
        go_wp2_with (at_builtin; (refine wpList_aps rfl (.tmp 51) (.tmp 55) 24 rfl w.heap.size 37 q0 _ 1 24 Try.underlying24 hq0 hq1 hq2 hq3 rfl (by omega) _ gs.length _ (heads gs) w5 rfl hobN.row.1 _ _ g5.length _ (heads g5) rfl ho5.rd.row (heads_one g5) (by omega) (by omega) hbase ?_; intro G6 cap w6 hown6 hb6 hg6))
        have HO := Lib.hid (hobN.join (by decide) ho5 (Nat.le_refl _) hszo hown6 hg6 hz5 (Nat.le_refl _))
        have HB := Lib.hid (TB.trans hb6)
        have HLEN := Lib.hid (show gs.length + g5.length = (gs ++ g5).length by rw [List.length_append])
        clear hown6 hb6 hg6 hobN TB ho5
        go_wp2
        go_ret
        rw [HLEN.out]
        exact ⟨G6, cap, gs ++ g5, rfl, by rw [HFIN.out, cards_append, HGC.out, HC5.out, cards_drop], HO.out, HB.out⟩
      · have hke : k = ks.length := by omega
        have HE := Lib.hid (show ks.drop k = [] by rw [hke]; simp)
        have HKE := Lib.hid hke
        cases E with
        | none =>
          have hz : ks.length = 0 := by
            rcases Nat.eq_zero_or_pos ks.length with h | h
            · exact h
            · obtain ⟨b1, o1, hE, _⟩ := rbq.at_ h
              cases hE
          have hk0 : k = 0 := by omega
          have hrd : RdD wo wo.heap.size none (ks.drop k) := by rw [HE.out]; exact RdD.nil _ _ _
          clear hke
          go_wp2_with fail
          refine (l02Copy_n (0) _ _ (ks.drop k) _ (by rw [List.length_drop] <;> omega) hrd (by have := tot_drop_le ks k; rw [List.length_drop]; omega)).mono ?_; rintro e w5 ⟨D5, c5, g5, rfl, hcc5, ho5, hb5⟩
          have HC5 := Lib.hid hcc5
          have hlen5 : g5.length ≤ 1000 := by have := (cards_same hcc5).1; rw [List.length_drop] at this; omega
          have hobN := hobg.bs hb5
          have TB := bs hbw hb5
          have hbase := TB.size
          have hz5 := hb5.size
          have hszo := hbw.size
          clear hcc5 hobg hb5 hbw hrd rbq
          go_wp2_with (at_builtin; (refine wpList_aps rfl (.tmp 51) (.tmp 55) 24 rfl w.heap.size 37 q0 _ 1 24 Try.underlying24 hq0 hq1 hq2 hq3 rfl (by omega) _ gs.length _ (heads gs) w5 rfl hobN.row.1 _ _ g5.length _ (heads g5) rfl ho5.rd.row (heads_one g5) (by omega) (by omega) hbase ?_; intro G6 cap w6 hown6 hb6 hg6))
          have HO := Lib.hid (hobN.join (by decide) ho5 (Nat.le_refl _) hszo hown6 hg6 hz5 (Nat.le_refl _))
          have HB := Lib.hid (TB.trans hb6)
          have HLEN := Lib.hid (show gs.length + g5.length = (gs ++ g5).length by rw [List.length_append])
          clear hown6 hb6 hg6 hobN TB ho5
          go_wp2
          go_ret
          rw [HLEN.out]
          exact ⟨G6, cap, gs ++ g5, rfl, by rw [HFIN.out, cards_append, HGC.out, HC5.out, cards_drop], HO.out, HB.out⟩
        | some ad =>
          obtain ⟨b1, o1, sp⟩ := ad
          by_cases hck : ce = k
          · have hrd : RdD wo wo.heap.size (some ⟨b1, o1, sp⟩) (ks.drop k) := by rw [HE.out]; exact RdD.nil _ _ _
            have z2 : (ks.length : Int) ≤ (ce : Int) := by omega
            have z1 : (k : Int) ≤ (ks.length : Int) := by omega
            clear hke
            go_wp2_with fail
            refine (l02Copy_n (ks.length - k) _ _ (ks.drop k) _ (by rw [List.length_drop] <;> omega) hrd (by have := tot_drop_le ks k; rw [List.length_drop]; omega)).mono ?_; rintro e w5 ⟨D5, c5, g5, rfl, hcc5, ho5, hb5⟩
            have HC5 := Lib.hid hcc5
            have hlen5 : g5.length ≤ 1000 := by have := (cards_same hcc5).1; rw [List.length_drop] at this; omega
            have hobN := hobg.bs hb5
            have TB := bs hbw hb5
            have hbase := TB.size
            have hz5 := hb5.size
            have hszo := hbw.size
            clear hcc5 hobg hb5 hbw hrd rbq
            go_wp2_with (at_builtin; (refine wpList_aps rfl (.tmp 51) (.tmp 55) 24 rfl w.heap.size 37 q0 _ 1 24 Try.underlying24 hq0 hq1 hq2 hq3 rfl (by omega) _ gs.length _ (heads gs) w5 rfl hobN.row.1 _ _ g5.length _ (heads g5) rfl ho5.rd.row (heads_one g5) (by omega) (by omega) hbase ?_; intro G6 cap w6 hown6 hb6 hg6))
            have HO := Lib.hid (hobN.join (by decide) ho5 (Nat.le_refl _) hszo hown6 hg6 hz5 (Nat.le_refl _))
            have HB := Lib.hid (TB.trans hb6)
            have HLEN := Lib.hid (show gs.length + g5.length = (gs ++ g5).length by rw [List.length_append])
            clear hown6 hb6 hg6 hobN TB ho5
            go_wp2
            go_ret
            rw [HLEN.out]
            exact ⟨G6, cap, gs ++ g5, rfl, by rw [HFIN.out, cards_append, HGC.out, HC5.out, cards_drop], HO.out, HB.out⟩
          · have hrd : ∀ A : Option Addr, RdD wo wo.heap.size A (ks.drop k) := fun A => by rw [HE.out]; exact RdD.nil _ _ _
            have z1 : (k : Int) ≤ (ks.length : Int) := by omega
            have z2 : (ks.length : Int) ≤ (ce : Int) := by omega
            clear hke
            go_wp2_with fail
            refine (l02Copy_n (ks.length - k) _ _ (ks.drop k) _ (by rw [List.length_drop] <;> omega) (hrd _) (by have := tot_drop_le ks k; rw [List.length_drop]; omega)).mono ?_; rintro e w5 ⟨D5, c5, g5, rfl, hcc5, ho5, hb5⟩
            have HC5 := Lib.hid hcc5
            have hlen5 : g5.length ≤ 1000 := by have := (cards_same hcc5).1; rw [List.length_drop] at this; omega
            have hobN := hobg.bs hb5
            have TB := bs hbw hb5
            have hbase := TB.size
            have hz5 := hb5.size
            have hszo := hbw.size
            clear hcc5 hobg hb5 hbw hrd rbq
            go_wp2_with (at_builtin; (refine wpList_aps rfl (.tmp 51) (.tmp 55) 24 rfl w.heap.size 37 q0 _ 1 24 Try.underlying24 hq0 hq1 hq2 hq3 rfl (by omega) _ gs.length _ (heads gs) w5 rfl hobN.row.1 _ _ g5.length _ (heads g5) rfl ho5.rd.row (heads_one g5) (by omega) (by omega) hbase ?_; intro G6 cap w6 hown6 hb6 hg6))
            have HO := Lib.hid (hobN.join (by decide) ho5 (Nat.le_refl _) hszo hown6 hg6 hz5 (Nat.le_refl _))
            have HB := Lib.hid (TB.trans hb6)
            have HLEN := Lib.hid (show gs.length + g5.length = (gs ++ g5).length by rw [List.length_append])
            clear hown6 hb6 hg6 hobN TB ho5
            go_wp2
            go_ret
            rw [HLEN.out]
            exact ⟨G6, cap, gs ++ g5, rfl, by rw [HFIN.out, cards_append, HGC.out, HC5.out, cards_drop], HO.out, HB.out⟩
end Go.Proofs.Ytdppmlchabogaaa
