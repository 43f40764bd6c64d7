/- l07Places: the places of texts; in the reference. -/
import Derived.Test.YtdppmlchabogaaaCards
import Derived.Test.YtdppmlchabogaaaKeysAll
import Derived.Test.YtdppmlchabogaaaSortKey
import Derived.Test.YtdppmlchabogaaaLater
namespace Go.Proofs.Ytdppmlchabogaaa
open Go.RowKit

theorem posD_yes {p : Nat → Bool} {k : Nat} (h : p k = true) : posD p (k + 1) = posD p k := by simp only [posD]; rw [if_pos h]
theorem posD_no {p : Nat → Bool} {k : Nat} (h : p k = false) : posD p (k + 1) = k + 1 := by simp only [posD]; rw [if_neg (by simp [h])]
theorem plL_succ {key : Int → Int} {q s : Nat} (hs : s = plPos key (plL key q) (q : Int)) : plL key (q + 1) = (plL key q).take s ++ [(q : Int)] ++ (plL key q).drop s := by
  subst hs
  rfl
theorem ints_take (xs : List Int) (k : Nat) : (ints xs).take k = ints (xs.take k) := by simp [ints]
theorem ints_drop (xs : List Int) (k : Nat) : (ints xs).drop k = ints (xs.drop k) := by simp [ints]
theorem ints_append (xs ys : List Int) : ints (xs ++ ys) = ints xs ++ ints ys := by simp [ints]
theorem l00Own_n (n : Nat) (A : Option Addr) (c : Nat) (xs : List Int) (w : World) (hn : xs.length = n) (ha : Rd w w.heap.size 1 A n (ints xs)) (hl : n ≤ 1048576) :
    Calls Try.prog 152 #[.slice A n c] w fun e w' => ∃ B d, e = .returned (.slice B n d) ∧ w'.ownsRow w.heap.size 2 1 (.slice B n d) n (ints xs) ∧ Below w.heap.size w w' := by
  subst hn
  exact l00Own_any A c xs w ha hl
/-- Behind q texts. -/
def PlR (key : Int → Int) (n : Nat) (w wr : World) (o q : Value) : Prop := ∃ (k g cg : Nat), k ≤ n ∧ q = .int .i64 k ∧ o = .slice (some ⟨g, 0, none⟩) k cg ∧
  wr.ownsRow w.heap.size 2 1 (.slice (some ⟨g, 0, none⟩) k cg) k (ints (plL key k)) ∧ Below w.heap.size w wr

set_option maxRecDepth 20000 in
set_option maxHeartbeats 8000000 in
theorem l07Places_any (K : Option Addr) (ck n : Nat) (L : List (List Int)) (i j : Nat) (w : World) (hn : L.length = n) (hok : deckOk L = true) (hij : i < j) (hj : j ≤ deckW L) (hv : haveF L (i : Int) (j : Int) = true) (ha : Rd w w.heap.size 1 K n (strs (keysL L (i : Int) (j : Int)))) :
    Calls Try.prog 125 #[.slice K n ck] w fun e w' => ∃ G cg, e = .returned (.slice G n cg) ∧
      w'.ownsRow w.heap.size 2 1 (.slice G n cg) n (ints (ordL L (i : Int) (j : Int))) ∧ Below w.heap.size w w' := by
  obtain ⟨j0, hj0', hj0, hj1, hj2⟩ := info_parts info_i64K
  have HN := Lib.hid hn
  have HOK := Lib.hid hok
  have HV := Lib.hid hv
  have h40 : n ≤ 40 := by rw [← hn]; exact deckOk_len hok
  obtain ⟨key, hkey⟩ : ∃ key, key = keyZ L (i : Int) (j : Int) := ⟨_, rfl⟩
  have HKEY := Lib.hid hkey
  have HORD := Lib.hid (show ordL L (i : Int) (j : Int) = plL key n by rw [hkey, ← hn]; rfl)
  clear hn hok hv hkey
  go_enter Try.func125, Try.ntmps125
  go_wp2
  go_loopw [3, 4] (fun o q wr => PlR key n w wr o q) (fun _ q _ => n - (intOf q).toNat)
  case atStart => exact ⟨0, w.heap.size, 0, by omega, rfl, rfl, own_lit w #[] 0 rfl (Nat.le_refl _) (by omega) rfl, ba (b0 w) (.cells #[] 2)⟩
  case round =>
    obtain ⟨wo, rfl⟩ : ∃ wo : World, wo = wr := ⟨_, rfl⟩
    obtain ⟨q, g, cg, hq, rfl, rfl, hown, hbw⟩ := hrel
    by_cases hlt : q < n
    · have i1 : (q : Int) < (n : Int) := by omega
      obtain ⟨out, hout⟩ : ∃ out, out = plL key q := ⟨_, rfl⟩
      have HOUT := Lib.hid hout
      have HLEN := Lib.hid (show out.length = q by rw [hout, plL_length])
      rw [← hout] at hown
      have HBW := Lib.hid hbw
      have HOWN := Lib.hid hown
      clear hout hbw hown
      go_wp2
      go_loopw [5] (fun vk wr => ∃ k : Nat, k ≤ q ∧ vk = .int .i64 k ∧ Hid (posD (fun r => decide (key (q : Int) < key (out.getD r 0))) k = posD (fun r => decide (key (q : Int) < key (out.getD r 0))) q) ∧ Below wo.heap.size wo wr) (fun vk _ => (intOf vk).toNat)
      case atStart => exact ⟨q, Nat.le_refl _, rfl, Lib.hid rfl, b0 _⟩
      case round =>
        obtain ⟨wq, rfl⟩ : ∃ wq : World, wq = wr := ⟨_, rfl⟩
        obtain ⟨k, hk, rfl, HPOS, hbq⟩ := hrel
        have hownq := own_bs HOWN.out hbq
        have hra := ha.below (HBW.out.trans (hbq.mono HBW.out.size))
        have HOQ := Lib.hid hownq
        have HBQ := Lib.hid hbq
        -- out of the inner loop: the number is put to its place
        have HCG := Lib.hid (own_cap hownq)
        have hgl := own_heap hownq
        by_cases hp : ∃ kp, k = kp + 1 ∧ key (q : Int) < key (out.getD kp 0)
        · obtain ⟨kp, rfl, hkey⟩ := hp
          obtain ⟨m, hm⟩ : ∃ m : Nat, out[kp]'(by rw [HLEN.out]; omega) = (m : Int) ∧ m < q := by
            have := plL_mem (key := key) (n := q) (z := out[kp]'(by rw [HLEN.out]; omega)) (by rw [← HOUT.out]; exact List.getElem_mem _)
            exact this
          have HGD := Lib.hid (show out.getD kp 0 = (m : Int) by rw [← hm.1]; simp [List.getD, show kp < out.length by rw [HLEN.out]; omega])
          have hqL : q < L.length := by rw [HN.out]; exact hlt
          have hmL : m < L.length := by have := hm.2; omega
          obtain ⟨s, hs⟩ : ∃ s, s = textL (part L[q] (i : Int) (j : Int)) := ⟨_, rfl⟩
          obtain ⟨t, ht⟩ : ∃ t, t = textL (part L[m] (i : Int) (j : Int)) := ⟨_, rfl⟩
          obtain ⟨z, hz⟩ : ∃ z, z = cmpT s t := ⟨_, rfl⟩
          have HZ := Lib.hid hz
          have HST := Lib.hid (show s.length = t.length by rw [hs, ht, textL_length, textL_length, (part_deck HOK.out hij hj hqL).1, (part_deck HOK.out hij hj hmL).1])
          have HSL := Lib.hid (show s.length ≤ 1048576 by rw [hs, textL_length, (part_deck HOK.out hij hj hqL).1]; have h1 := (part_deck HOK.out hij hj hqL).2; have h2 := (cardOk_len (deckOk_card HOK.out hqL).1).2; omega)
          have hlv : z < 0 := by
            rw [hz, hs, ht, keysL_cmp HV.out hqL hmL, (keyZ_cmp HOK.out hij hj hqL hmL).1, ← HKEY.out, ← HGD.out]
            exact hkey
          have HP := Lib.hid (show posD (fun r => decide (key (q : Int) < key (out.getD r 0))) kp = posD (fun r => decide (key (q : Int) < key (out.getD r 0))) q by rw [← HPOS]; exact (posD_yes (decide_eq_true hkey)).symm)
          obtain ⟨b1, o1, hK, _, hcell⟩ := hra.at_ hlt
          have d1 := hcell q _ (strs_get _ q (by rw [keysL_length]; exact hqL))
          rw [keysL_at _ _ _ _ hqL, ← hs] at d1
          have d3 := hcell m _ (strs_get _ m (by rw [keysL_length]; exact hmL))
          rw [keysL_at _ _ _ _ hmL, ← ht] at d3
          have d2 := own_cell hownq kp (by rw [ints_length, HLEN.out]; omega)
          rw [show (ints out)[kp]'(by rw [ints_length, HLEN.out]; omega) = .int .i64 (m : Int) by simp [ints, hm.1]] at d2
          have hwp : IntKind.i64.wrap (kp : Int) = (kp : Int) := by rw [IntKind.wrap_i64]; omega
          have z1 : (kp : Int) < (q : Int) := by omega
          have z2 : (m : Int) < (n : Int) := by have := hm.2; omega
          have z3 : (0 : Int) < (kp : Int) + 1 := by omega
          have l1 := fun x : Later wq => lat_cell x d1
          have l2 := fun x : Later wq => lat_cell x d2
          have l3 := fun x : Later wq => lat_cell x d3
          subst hK
          clear hkey hm hs ht hz hcell d1 d2 d3 hra hownq HGD
          go_wp2_with fail
          refine wp_region_later (by kernel_rfl) (by kernel_rfl) ?_
          repeat (go_big_quiet_step ((go_at_call 122; exact lat_pure (l03Compare_z s t z _ HZ.out HST.out HSL.out))))
          refine wpQuiet_nil ?_
          intro w4 hb4
          have HB4 := Lib.hid (bs hbq hb4)
          clear l1 l2 l3 hb4 hbq hwp
          go_wp2
          go_roundw
          case rel => exact ⟨kp, by omega, by first | rfl | go_num, HP.out, HB4.out⟩
          case measure => (simp [intOf]; try omega)
        · have HSTOP := Lib.hid (show k = plPos key out (q : Int) by
            unfold plPos
            rw [HLEN.out, ← HPOS]
            cases k with
            | zero => rfl
            | succ kp => rw [posD_no]; simp only [decide_eq_false_iff_not]; exact fun h => hp ⟨kp, rfl, h⟩)
          have HNEXT := Lib.hid (show plL key (q + 1) = out.take k ++ [(q : Int)] ++ out.drop k by rw [plL_succ (s := k) (by rw [← HOUT.out]; exact HSTOP.out), ← HOUT.out])
          by_cases hk0 : k = 0
          · subst hk0
            go_wp2_with fail
            refine wp_region_later (by kernel_rfl) (by kernel_rfl) ?_
            repeat (go_big_quiet_step (fail))
            refine wpQuiet_nil ?_
            intro w4 hb4
            have HB4 := Lib.hid (bs hbq hb4)
            have hown4 := own_bs HOQ.out (bs (b0 _) hb4)
            have TB := bs HBW.out HB4.out
            have hrd4 := (Rd.own (own_short hown4 hk))
            rw [Nat.mul_one, ints_take] at hrd4
            have HT := Lib.hid (show (out.take (0)).length = 0 by rw [List.length_take, HLEN.out]; omega)
            have HD := Lib.hid (show (out.drop (0)).length = q - (0) by rw [List.length_drop, HLEN.out])
            have HOW4 := Lib.hid hown4
            clear hb4 hbq hownq hra hown4
            go_wp2_with fail
            refine (l00Own_n (0) _ _ (out.take (0)) _ HT.out hrd4 (by omega)).mono ?_; rintro e w5 ⟨B, d, rfl, ho5, hb5⟩
            have HOW5 := Lib.hid (own_bs HOW4.out hb5)
            have TB5 := bs TB hb5
            have hz5 := hb5.size
            clear hb5 hrd4
            go_wp2_with (first
              | (at_builtin
                 refine wpList_ap rfl (.tmp 39) (.tmp 41) 29 rfl w4.heap.size 2 j0 _ 1 8 Try.underlying29 hj0' hj0 hj1 hj2 rfl (by omega) _ (0) _ (ints (out.take (0))) rfl w5 ho5 1 #[.int .i64 (q : Int)] w5.heap.size rfl rfl rfl (by intro v hv; simp at hv; subst hv; rfl) (by omega) (by omega) (by omega) hz5 ?_
                 intro gg cap w6 hown6 hb6 hg6 hor6 hgl6
                 have hz6 := hg6.size
                 have HB46 := Lib.hid hb6
                 have HOW6 := Lib.hid (own_upg HOW5.out hb6 (own_heap HOW4.out))
                 have TB6 := Lib.hid (TB5.trans (hb6.mono TB.size))
                 have hrdD : Rd w6 w6.heap.size 1 (some ⟨g, 0, none⟩) (q - 0) (ints (out.drop 0)) := by have := Rd.own HOW6.out; simpa using this
                 have hbase6 : w4.heap.size ≤ w6.heap.size := Nat.le_trans hz5 hz6
                 clear hb6 hg6 hor6 ho5 TB5)
              | (at_builtin; (refine wpList_aps rfl (.tmp 43) (.tmp 46) 29 rfl w4.heap.size 2 j0 _ 1 8 Try.underlying29 hj0' hj0 hj1 hj2 rfl (by omega) _ (0 + 1) _ (ints (out.take (0)) ++ [.int .i64 (q : Int)]) w6 rfl hown6 _ _ (q - (0)) _ (ints (out.drop (0))) rfl hrdD (ints_one _) (by omega) (by omega) hbase6 ?_; intro G7 cap7 w7 hown7 hb7 hg7)))
            have HFIN := Lib.hid (show w7.ownsRow w.heap.size 2 1 (.slice G7 (0 + 1 + (q - (0))) cap7) (0 + 1 + (q - (0))) (ints (plL key (q + 1))) by
              rw [HNEXT.out, ints_append, ints_append]
              exact own_base hown7 TB.size)
            have HBF := Lib.hid (TB6.out.trans (hb7.mono TB.size))
            have HG7 := Lib.hid (own_at HFIN.out (show 0 < 0 + 1 + (q - (0)) by omega))
            obtain ⟨g7, hg7', _, _⟩ := HG7.out
            subst hg7'
            have hkk : 0 + 1 + (q - (0)) = q + 1 := by omega
            rw [hkk] at HFIN
            clear hown7 hb7 hg7 hown6 hrdD hkk HG7
            go_wp2
            go_roundw
            case rel =>
              have P : PlR key n w w7 (.slice (some ⟨g7, 0, none⟩) (q + 1) cap7) (.int .i64 ((q : Int) + 1)) := ⟨q + 1, g7, cap7, by omega, by go_num, rfl, HFIN.out, HBF.out⟩
              first | (first | exact P | exact ⟨_, P, rfl⟩ | exact ⟨_, _, P, rfl, rfl⟩ | exact ⟨_, _, _, P, rfl, rfl, rfl⟩) | (rw [show (1 + q : Nat) = q + 1 by omega]; (first | exact P | exact ⟨_, P, rfl⟩ | exact ⟨_, _, P, rfl, rfl⟩ | exact ⟨_, _, _, P, rfl, rfl, rfl⟩)) | (have e : 0 + 1 + (q - (0)) = q + 1 := (by omega); rw [e]; (first | exact P | exact ⟨_, P, rfl⟩ | exact ⟨_, _, P, rfl, rfl⟩ | exact ⟨_, _, _, P, rfl, rfl, rfl⟩))
            case measure => (simp [intOf]; try omega)
          · obtain ⟨kp, rfl⟩ : ∃ kp, k = kp + 1 := ⟨k - 1, by omega⟩
            obtain ⟨m, hm⟩ : ∃ m : Nat, out[kp]'(by rw [HLEN.out]; omega) = (m : Int) ∧ m < q := by
              have := plL_mem (key := key) (n := q) (z := out[kp]'(by rw [HLEN.out]; omega)) (by rw [← HOUT.out]; exact List.getElem_mem _)
              exact this
            have HGD := Lib.hid (show out.getD kp 0 = (m : Int) by rw [← hm.1]; simp [List.getD, show kp < out.length by rw [HLEN.out]; omega])
            have hqL : q < L.length := by rw [HN.out]; exact hlt
            have hmL : m < L.length := by have := hm.2; omega
            obtain ⟨s, hs⟩ : ∃ s, s = textL (part L[q] (i : Int) (j : Int)) := ⟨_, rfl⟩
            obtain ⟨t, ht⟩ : ∃ t, t = textL (part L[m] (i : Int) (j : Int)) := ⟨_, rfl⟩
            obtain ⟨z, hz⟩ : ∃ z, z = cmpT s t := ⟨_, rfl⟩
            have HZ := Lib.hid hz
            have HST := Lib.hid (show s.length = t.length by rw [hs, ht, textL_length, textL_length, (part_deck HOK.out hij hj hqL).1, (part_deck HOK.out hij hj hmL).1])
            have HSL := Lib.hid (show s.length ≤ 1048576 by rw [hs, textL_length, (part_deck HOK.out hij hj hqL).1]; have h1 := (part_deck HOK.out hij hj hqL).2; have h2 := (cardOk_len (deckOk_card HOK.out hqL).1).2; omega)
            have hlv : ¬ z < 0 := by
              rw [hz, hs, ht, keysL_cmp HV.out hqL hmL, (keyZ_cmp HOK.out hij hj hqL hmL).1, ← HKEY.out, ← HGD.out]
              exact fun h => hp ⟨kp, rfl, h⟩
            obtain ⟨b1, o1, hK, _, hcell⟩ := hra.at_ hlt
            have d1 := hcell q _ (strs_get _ q (by rw [keysL_length]; exact hqL))
            rw [keysL_at _ _ _ _ hqL, ← hs] at d1
            have d3 := hcell m _ (strs_get _ m (by rw [keysL_length]; exact hmL))
            rw [keysL_at _ _ _ _ hmL, ← ht] at d3
            have d2 := own_cell hownq kp (by rw [ints_length, HLEN.out]; omega)
            rw [show (ints out)[kp]'(by rw [ints_length, HLEN.out]; omega) = .int .i64 (m : Int) by simp [ints, hm.1]] at d2
            have hwp : IntKind.i64.wrap (kp : Int) = (kp : Int) := by rw [IntKind.wrap_i64]; omega
            have z1 : (kp : Int) < (q : Int) := by omega
            have z2 : (m : Int) < (n : Int) := by have := hm.2; omega
            have z3 : (0 : Int) < (kp : Int) + 1 := by omega
            have l1 := fun x : Later wq => lat_cell x d1
            have l2 := fun x : Later wq => lat_cell x d2
            have l3 := fun x : Later wq => lat_cell x d3
            have HKQ := Lib.hid hK
            subst hK
            clear hm hs ht hz hcell d1 d2 d3 hra HGD hp hk0
            go_wp2_with fail
            refine wp_region_later (by kernel_rfl) (by kernel_rfl) ?_
            repeat (go_big_quiet_step ((go_at_call 122; exact lat_pure (l03Compare_z s t z _ HZ.out HST.out HSL.out))))
            refine wpQuiet_nil ?_
            intro w4 hb4
            have HB4 := Lib.hid (bs hbq hb4)
            have z4 : (kp : Int) + 1 ≤ (q : Int) := by omega
            have z5 : (q : Int) ≤ (cg : Int) := by have := HCG.out.1; omega
            have z6 : (kp : Int) + 1 ≤ (cg : Int) := by omega
            clear l1 l2 l3 hwp
            by_cases hck : cg = kp + 1
            · have hown4 := own_bs HOQ.out (bs (b0 _) hb4)
              have TB := bs HBW.out HB4.out
              have hrd4 := (Rd.own (own_short hown4 hk))
              rw [Nat.mul_one, ints_take] at hrd4
              have HT := Lib.hid (show (out.take (kp + 1)).length = kp + 1 by rw [List.length_take, HLEN.out]; omega)
              have HD := Lib.hid (show (out.drop (kp + 1)).length = q - (kp + 1) by rw [List.length_drop, HLEN.out])
              have HOW4 := Lib.hid hown4
              clear hb4 hbq hownq hown4
              go_wp2_with fail
              refine (l00Own_n (kp + 1) _ _ (out.take (kp + 1)) _ HT.out hrd4 (by omega)).mono ?_; rintro e w5 ⟨B, d, rfl, ho5, hb5⟩
              have HOW5 := Lib.hid (own_bs HOW4.out hb5)
              have TB5 := bs TB hb5
              have hz5 := hb5.size
              clear hb5 hrd4
              go_wp2_with (first
                | (at_builtin
                   refine wpList_ap rfl (.tmp 39) (.tmp 41) 29 rfl w4.heap.size 2 j0 _ 1 8 Try.underlying29 hj0' hj0 hj1 hj2 rfl (by omega) _ (kp + 1) _ (ints (out.take (kp + 1))) rfl w5 ho5 1 #[.int .i64 (q : Int)] w5.heap.size rfl rfl rfl (by intro v hv; simp at hv; subst hv; rfl) (by omega) (by omega) (by omega) hz5 ?_
                   intro gg cap w6 hown6 hb6 hg6 hor6 hgl6
                   have hz6 := hg6.size
                   have HB46 := Lib.hid hb6
                   have HOW6 := Lib.hid (own_upg HOW5.out hb6 (own_heap HOW4.out))
                   have TB6 := Lib.hid (TB5.trans (hb6.mono TB.size))
                   have hrdD : Rd w6 w6.heap.size 1 (some ⟨g, 0, none⟩) (q - (kp + 1)) (ints (out.drop (kp + 1))) := by
                     have e : q - (kp + 1) = 0 := by have := HCG.out.1; omega
                     have e2 : out.drop (kp + 1) = [] := List.drop_eq_nil_of_le (by rw [HLEN.out]; omega)
                     rw [e, e2]
                     exact Rd.nil _ _ _ _
                   have hbase6 : w4.heap.size ≤ w6.heap.size := Nat.le_trans hz5 hz6
                   clear hb6 hg6 hor6 ho5 TB5)
                | (at_builtin; (refine wpList_aps rfl (.tmp 43) (.tmp 46) 29 rfl w4.heap.size 2 j0 _ 1 8 Try.underlying29 hj0' hj0 hj1 hj2 rfl (by omega) _ (kp + 1 + 1) _ (ints (out.take (kp + 1)) ++ [.int .i64 (q : Int)]) w6 rfl hown6 _ _ (q - (kp + 1)) _ (ints (out.drop (kp + 1))) rfl hrdD (ints_one _) (by omega) (by omega) hbase6 ?_; intro G7 cap7 w7 hown7 hb7 hg7)))
              have HFIN := Lib.hid (show w7.ownsRow w.heap.size 2 1 (.slice G7 (kp + 1 + 1 + (q - (kp + 1))) cap7) (kp + 1 + 1 + (q - (kp + 1))) (ints (plL key (q + 1))) by
                rw [HNEXT.out, ints_append, ints_append]
                exact own_base hown7 TB.size)
              have HBF := Lib.hid (TB6.out.trans (hb7.mono TB.size))
              have HG7 := Lib.hid (own_at HFIN.out (show 0 < kp + 1 + 1 + (q - (kp + 1)) by omega))
              obtain ⟨g7, hg7', _, _⟩ := HG7.out
              subst hg7'
              have hkk : kp + 1 + 1 + (q - (kp + 1)) = q + 1 := by omega
              rw [hkk] at HFIN
              clear hown7 hb7 hg7 hown6 hrdD hkk HG7
              go_wp2
              go_roundw
              case rel =>
                have P : PlR key n w w7 (.slice (some ⟨g7, 0, none⟩) (q + 1) cap7) (.int .i64 ((q : Int) + 1)) := ⟨q + 1, g7, cap7, by omega, by go_num, rfl, HFIN.out, HBF.out⟩
                first | (first | exact P | exact ⟨_, P, rfl⟩ | exact ⟨_, _, P, rfl, rfl⟩ | exact ⟨_, _, _, P, rfl, rfl, rfl⟩) | (have e : kp + 1 + 1 + (q - (kp + 1)) = q + 1 := (by omega); rw [e]; (first | exact P | exact ⟨_, P, rfl⟩ | exact ⟨_, _, P, rfl, rfl⟩ | exact ⟨_, _, _, P, rfl, rfl, rfl⟩))
              case measure => (simp [intOf]; try omega)
            · have hown4 := own_bs HOQ.out (bs (b0 _) hb4)
              have TB := bs HBW.out HB4.out
              have hrd4 := (Rd.own (own_short hown4 hk))
              rw [Nat.mul_one, ints_take] at hrd4
              have HT := Lib.hid (show (out.take (kp + 1)).length = kp + 1 by rw [List.length_take, HLEN.out]; omega)
              have HD := Lib.hid (show (out.drop (kp + 1)).length = q - (kp + 1) by rw [List.length_drop, HLEN.out])
              have HOW4 := Lib.hid hown4
              clear hb4 hbq hownq hown4
              go_wp2_with fail
              refine (l00Own_n (kp + 1) _ _ (out.take (kp + 1)) _ HT.out hrd4 (by omega)).mono ?_; rintro e w5 ⟨B, d, rfl, ho5, hb5⟩
              have HOW5 := Lib.hid (own_bs HOW4.out hb5)
              have TB5 := bs TB hb5
              have hz5 := hb5.size
              clear hb5 hrd4
              go_wp2_with (first
                | (at_builtin
                   refine wpList_ap rfl (.tmp 39) (.tmp 41) 29 rfl w4.heap.size 2 j0 _ 1 8 Try.underlying29 hj0' hj0 hj1 hj2 rfl (by omega) _ (kp + 1) _ (ints (out.take (kp + 1))) rfl w5 ho5 1 #[.int .i64 (q : Int)] w5.heap.size rfl rfl rfl (by intro v hv; simp at hv; subst hv; rfl) (by omega) (by omega) (by omega) hz5 ?_
                   intro gg cap w6 hown6 hb6 hg6 hor6 hgl6
                   have hz6 := hg6.size
                   have HB46 := Lib.hid hb6
                   have HOW6 := Lib.hid (own_upg HOW5.out hb6 (own_heap HOW4.out))
                   have TB6 := Lib.hid (TB5.trans (hb6.mono TB.size))
                   have hrdD : Rd w6 w6.heap.size 1 (some ⟨g, kp + 1, none⟩) (q - (kp + 1)) (ints (out.drop (kp + 1))) := by
                     have h := (Rd.own HOW6.out).cut (i := kp + 1) (j := q) (cap := cg) hk (Nat.le_refl _) HCG.out.1
                     rw [if_neg hck] at h
                     have e : ((ints out).drop ((kp + 1) * 1)).take ((q - (kp + 1)) * 1) = ints (out.drop (kp + 1)) := by
                       rw [Nat.mul_one, Nat.mul_one, ints_drop]
                       exact List.take_of_length_le (by rw [ints_length, HD.out]; omega)
                     rw [e] at h
                     simpa [Addr.add] using h
                   have hbase6 : w4.heap.size ≤ w6.heap.size := Nat.le_trans hz5 hz6
                   clear hb6 hg6 hor6 ho5 TB5)
                | (at_builtin; (refine wpList_aps rfl (.tmp 43) (.tmp 46) 29 rfl w4.heap.size 2 j0 _ 1 8 Try.underlying29 hj0' hj0 hj1 hj2 rfl (by omega) _ (kp + 1 + 1) _ (ints (out.take (kp + 1)) ++ [.int .i64 (q : Int)]) w6 rfl hown6 _ _ (q - (kp + 1)) _ (ints (out.drop (kp + 1))) rfl hrdD (ints_one _) (by omega) (by omega) hbase6 ?_; intro G7 cap7 w7 hown7 hb7 hg7)))
              have HFIN := Lib.hid (show w7.ownsRow w.heap.size 2 1 (.slice G7 (kp + 1 + 1 + (q - (kp + 1))) cap7) (kp + 1 + 1 + (q - (kp + 1))) (ints (plL key (q + 1))) by
                rw [HNEXT.out, ints_append, ints_append]
                exact own_base hown7 TB.size)
              have HBF := Lib.hid (TB6.out.trans (hb7.mono TB.size))
              have HG7 := Lib.hid (own_at HFIN.out (show 0 < kp + 1 + 1 + (q - (kp + 1)) by omega))
              obtain ⟨g7, hg7', _, _⟩ := HG7.out
              subst hg7'
              have hkk : kp + 1 + 1 + (q - (kp + 1)) = q + 1 := by omega
              rw [hkk] at HFIN
              clear hown7 hb7 hg7 hown6 hrdD hkk HG7
              go_wp2
              go_roundw
              case rel =>
                have P : PlR key n w w7 (.slice (some ⟨g7, 0, none⟩) (q + 1) cap7) (.int .i64 ((q : Int) + 1)) := ⟨q + 1, g7, cap7, by omega, by go_num, rfl, HFIN.out, HBF.out⟩
                first | (first | exact P | exact ⟨_, P, rfl⟩ | exact ⟨_, _, P, rfl, rfl⟩ | exact ⟨_, _, _, P, rfl, rfl, rfl⟩) | (have e : kp + 1 + 1 + (q - (kp + 1)) = q + 1 := (by omega); rw [e]; (first | exact P | exact ⟨_, P, rfl⟩ | exact ⟨_, _, P, rfl, rfl⟩ | exact ⟨_, _, _, P, rfl, rfl, rfl⟩))
              case measure => (simp [intOf]; try omega)
    · obtain rfl : q = n := by omega
      go_wp2
      go_ret
      exact ⟨_, cg, rfl, by rw [HORD.out]; exact hown, hbw⟩
end Go.Proofs.Ytdppmlchabogaaa
