/- l07Places: the places of texts; in the reference. orderBy: the places of a deck in the order of a field; in the program. OrderBy; in the program and in the reference. SortedBy; in the program and in the reference. -/
import Derived.Test.YtmfoaggohlfflaaGreatDoorCardFns
import Derived.Test.YtmfoaggohlfflaaGreatDoorKeysAll
import Derived.Test.YtmfoaggohlfflaaGreatDoorSortKey
import Derived.Test.YtmfoaggohlfflaaGreatDoorLater
import Derived.Test.YtmfoaggohlfflaaGreatDoorSortLib
import Derived.Test.YtmfoaggohlfflaaGreatDoorDecks
import Derived.Test.YtmfoaggohlfflaaGreatDoorGroups
import Derived.Test.YtmfoaggohlfflaaGreatDoorFirst
/-! ### l07Places: the places of texts; in the reference. -/
namespace Go.Proofs.YtmfoaggohlfflaaGreatDoor
open Go.RowKit

theorem posD_yes {p : Nat → Bool} {k : Nat} (h : p k = true) : posD p (k + 1) = posD p k := by simp only [posD]; rw [if_pos h]
theorem posD_no {p : Nat → Bool} {k : Nat} (h : p k = false) : posD p (k + 1) = k + 1 := by simp only [posD]; rw [if_neg (by simp [h])]
theorem plL_succ {key : Int → Int} {q s : Nat} (hs : s = plPos key (plL key q) (q : Int)) : plL key (q + 1) = (plL key q).take s ++ [(q : Int)] ++ (plL key q).drop s := by
  subst hs
  rfl
theorem ints_take (xs : List Int) (k : Nat) : (ints xs).take k = ints (xs.take k) := by simp [ints]
theorem ints_drop (xs : List Int) (k : Nat) : (ints xs).drop k = ints (xs.drop k) := by simp [ints]
theorem ints_append (xs ys : List Int) : ints (xs ++ ys) = ints xs ++ ints ys := by simp [ints]
theorem l00Own_n (n : Nat) (A : Option Addr) (c : Nat) (xs : List Int) (w : World) (hn : xs.length = n) (ha : Rd w w.heap.size 1 A n (ints xs)) (hl : n ≤ 1048576) :
    Calls Tryz.prog 130 #[.slice A n c] w fun e w' => ∃ B d, e = .returned (.slice B n d) ∧ w'.ownsRow w.heap.size 2 1 (.slice B n d) n (ints xs) ∧ Below w.heap.size w w' := by
  subst hn
  exact l00Own_any A c xs w ha hl
/-- Behind q texts. -/
def PlR (key : Int → Int) (n : Nat) (w wr : World) (o q : Value) : Prop := ∃ (k g cg : Nat), k ≤ n ∧ q = .int .i64 k ∧ o = .slice (some ⟨g, 0, none⟩) k cg ∧
  wr.ownsRow w.heap.size 2 1 (.slice (some ⟨g, 0, none⟩) k cg) k (ints (plL key k)) ∧ Below w.heap.size w wr

end Go.Proofs.YtmfoaggohlfflaaGreatDoor

/-! ### orderBy: the places of a deck in the order of a field; in the program. -/
namespace Go.Proofs.YtmfoaggohlfflaaGreatDoor
open Go.RowKit

set_option maxHeartbeats 2000000 in
theorem orderBy1_any (bd bf : Nat) (D : Option Addr) (c : Nat) (hs : List Hd) (x y i j : Nat) (w : World) (hd : w.cell? ⟨bd, 0, none⟩ = some (.slice D hs.length c)) (h1 : w.cell? ⟨bf, 0, none⟩ = some (.int .i64 (i : Int))) (h2 : w.cell? ⟨bf, 1, none⟩ = some (.int .i64 (j : Int)))
    (ha : RdD w w.heap.size D hs) (hok : deckOk (cards hs) = true) (hij : i < j) (hj : j ≤ deckW (cards hs)) (hl : hs.length + tot hs ≤ 1048576) (hx : x < hs.length) (hy : y < hs.length) :
    Calls Tryz.prog 169 #[.int .i64 (x : Int), .int .i64 (y : Int), .pointer (some ⟨bd, 0, none⟩), .pointer (some ⟨bf, 0, none⟩)] w fun e w' => e = .returned (.int .i64 (cmpC (cards hs) (i : Int) (j : Int) x y)) ∧ Below w.heap.size w w' := by
  have rc := ha.card_at hx
  have rc' := ha.card_at hy
  have hcap := ha.cap_at hx
  have hcap' := ha.cap_at hy
  have hlc : hs[x].xs.length ≤ 1048576 := by have := tot_at hs x hx; omega
  have hlc' : hs[y].xs.length ≤ 1048576 := by have := tot_at hs y hy; omega
  have hjk : j ≤ hs[x].xs.length := by rw [← deckW_at hok hx]; exact hj
  have hjk' : j ≤ hs[y].xs.length := by rw [← deckW_at hok hy]; exact hj
  obtain ⟨z, hz⟩ : ∃ z, z = cmpR (part hs[x].xs (i : Int) (j : Int)) (part hs[y].xs (i : Int) (j : Int)) := ⟨_, rfl⟩
  have HZ := Lib.hid hz
  have HZC := Lib.hid (show z = cmpC (cards hs) (i : Int) (j : Int) x y by rw [hz, cmpC_hd hx hy])
  obtain ⟨b1, o1, rfl, _, hcell⟩ := ha.at_ hx
  have d1 := hcell x hx
  have d2 := hcell y hy
  have l0 := fun x : Later w => lat_cell x hd
  have l1 := fun x : Later w => lat_cell x d1
  have l2 := fun x : Later w => lat_cell x d2
  have l3 := fun x : Later w => lat_cell x h1
  have l4 := fun x : Later w => lat_cell x h2
  have i1 : (x : Int) < (hs.length : Int) := by omega
  have i2 : (y : Int) < (hs.length : Int) := by omega
  clear hz hcell d1 d2 ha hok hd h1 h2
  go_enter Tryz.func169, Tryz.ntmps169
  go_wp2_with fail
  refine wp_region_later (by kernel_rfl) (by kernel_rfl) ?_
  repeat (go_big_quiet_step ((go_at_call 170; exact lat_call (compareFields_z _ _ _ _ hs[x].xs hs[y].xs i j z _ HZ.out (lat_rd _ rc) (lat_rd _ rc') hij hjk hjk' hlc hlc' hcap hcap'))))
  refine wpQuiet_nil ?_
  intro w4 hb4
  go_wp2
  go_ret
  exact ⟨ret_int HZC.out, hb4⟩

/-- Behind k cards. -/
def OrR (n : Nat) (w wr : World) (o q : Value) : Prop := ∃ (k g cg : Nat), k ≤ n ∧ q = .int .i64 k ∧ o = .slice (some ⟨g, 0, none⟩) k cg ∧
  wr.ownsRow w.heap.size 2 1 (.slice (some ⟨g, 0, none⟩) k cg) k (ints (rowF (fun k => (k : Int)) k)) ∧ Below w.heap.size w wr

set_option maxRecDepth 20000 in
set_option maxHeartbeats 4000000 in
theorem orderBy_any (D : Option Addr) (c : Nat) (hs : List Hd) (i j : Nat) (w : World) (ha : RdD w w.heap.size D hs) (hok : deckOk (cards hs) = true) (hij : i < j) (hj : j ≤ deckW (cards hs)) (hl : hs.length + tot hs ≤ 1048576) :
    Calls Tryz.prog 149 #[.slice D hs.length c, .agg #[.int .i64 (i : Int), .int .i64 (j : Int)]] w fun e w' => ∃ G cg, e = .returned (.slice G hs.length cg) ∧
      w'.ownsRow w.heap.size 2 1 (.slice G hs.length cg) hs.length (ints (ordL (cards hs) (i : Int) (j : Int))) ∧ Below w.heap.size w w' := by
  obtain ⟨j0, hj0', hj0, hj1, hj2⟩ := info_parts info_i64K
  have HCL := Lib.hid (cards_length hs)
  have HOK := Lib.hid hok
  have h40 : hs.length ≤ 40 := by have := deckOk_len hok; rwa [cards_length] at this
  obtain ⟨W, hW⟩ : ∃ W, W = (w.alloc (.cells #[.slice D hs.length c] 24)).alloc (.cells #[.int .i64 (i : Int), .int .i64 (j : Int)] 27) := ⟨_, rfl⟩
  have T0 : Below w.heap.size w W := by rw [hW]; exact ba (ba (b0 w) _) _
  have ra : RdD W W.heap.size D hs := by rw [hW]; exact (ha.a1 _).a1 _
  have k1 : W.cell? ⟨w.heap.size, 0, none⟩ = some (.slice D hs.length c) := by rw [hW]; exact cell_alloc (cell_new rfl rfl) _
  have k2 : W.cell? ⟨w.heap.size + 1, 0, none⟩ = some (.int .i64 (i : Int)) := by rw [hW]; exact cell_new (by simp) rfl
  have k3 : W.cell? ⟨w.heap.size + 1, 1, none⟩ = some (.int .i64 (j : Int)) := by rw [hW]; exact cell_new (by simp) rfl
  have HW := Lib.hid hW
  have HWS := Lib.hid (show W.heap.size = w.heap.size + 1 + 1 by rw [hW]; simp)
  have HKEY := Lib.hid (fun (x y : Int) (h1 : 0 ≤ x) (h2 : x < hs.length) (h3 : 0 ≤ y) (h4 : y < hs.length) => (show cmpC (cards hs) (i : Int) (j : Int) x.toNat y.toNat < 0 ↔ keyZ (cards hs) (i : Int) (j : Int) x < keyZ (cards hs) (i : Int) (j : Int) y by
    have := (keyZ_cmp hok hij hj (p := x.toNat) (q := y.toNat) (by rw [cards_length]; omega) (by rw [cards_length]; omega)).1
    rwa [show ((x.toNat : Nat) : Int) = x by omega, show ((y.toNat : Nat) : Int) = y by omega] at this))
  have HCMP := Lib.hid (show CmpOk 169 #[.pointer (some ⟨w.heap.size, 0, none⟩), .pointer (some ⟨w.heap.size + 1, 0, none⟩)] (fun x y => cmpC (cards hs) (i : Int) (j : Int) x.toNat y.toNat) W.heap.size hs.length W from
    fun x y h1 h2 h3 h4 w' hb => by
      have := orderBy1_any w.heap.size (w.heap.size + 1) D c hs x.toNat y.toNat i j w' (cell_later hb k1) (cell_later hb k2) (cell_later hb k3) (ra.up hb) hok hij hj hl (by omega) (by omega)
      rw [show ((x.toNat : Nat) : Int) = x by omega, show ((y.toNat : Nat) : Int) = y by omega] at this
      exact this)
  clear hW hok
  go_enter Tryz.func149, Tryz.ntmps149
  go_wp2
  rw [← HW.out]
  go_loopw [5, 10] (fun o q wr => OrR hs.length W wr o q) (fun _ q _ => hs.length - (intOf q).toNat)
  case atStart =>
    refine ⟨0, w.heap.size + 1 + 1, 0, by omega, rfl, rfl, ?_, ba (b0 W) (.cells #[] 2)⟩
    exact own_lit W #[] 0 HWS.out.symm (Nat.le_refl _) (by omega) rfl
  case round =>
    obtain ⟨wo, rfl⟩ : ∃ wo : World, wo = wr := ⟨_, rfl⟩
    obtain ⟨k, g, cg, hk, rfl, rfl, hown, hbw⟩ := hrel
    by_cases hlt : k < hs.length
    · have i1 : (k : Int) < (hs.length : Int) := by omega
      have hbase := hbw.size
      go_wp2_with (at_builtin; refine wpList_ap rfl (.tmp 13) (.tmp 15) 39 rfl W.heap.size 2 j0 _ 1 8 Tryz.underlying39 hj0' hj0 hj1 hj2 rfl (by omega) _ k _ (ints (rowF (fun k => (k : Int)) k)) rfl wo hown 1 #[.int .i64 (k : Int)] wo.heap.size rfl rfl rfl (by intro v hv; simp at hv; subst hv; rfl) (by omega) (by omega) (by omega) hbase ?_; intro gg cap w6 hown6 hb6 hg6 _ _)
      have HO := Lib.hid (show w6.ownsRow W.heap.size 2 1 (.slice (some ⟨gg, 0, none⟩) (k + 1) cap) (k + 1) (ints (rowF (fun k => (k : Int)) (k + 1))) by rw [rowF_snoc, ints_snoc]; exact hown6)
      have HB := Lib.hid (hbw.trans hb6)
      clear hown6 hown hb6 hg6 hbw
      go_wp2
      go_roundw
      case rel =>
        have P : OrR hs.length W w6 (.slice (some ⟨gg, 0, none⟩) (k + 1) cap) (.int .i64 ((k : Int) + 1)) := ⟨k + 1, gg, cap, by omega, by go_num, rfl, HO.out, HB.out⟩
        first | exact P | exact ⟨_, P, rfl⟩ | exact ⟨_, _, P, rfl, rfl⟩ | exact ⟨_, _, _, P, rfl, rfl, rfl⟩ | exact ⟨_, _, _, _, P, rfl, rfl, rfl, rfl⟩ | exact ⟨_, _, _, _, _, P, rfl, rfl, rfl, rfl, rfl⟩ | exact ⟨_, _, _, _, _, _, P, rfl, rfl, rfl, rfl, rfl, rfl⟩ | exact ⟨_, _, _, _, _, _, _, P, rfl, rfl, rfl, rfl, rfl, rfl, rfl⟩ | exact ⟨_, _, _, _, _, _, _, _, P, rfl, rfl, rfl, rfl, rfl, rfl, rfl, rfl⟩
      case measure => (simp [intOf]; try omega)
    · obtain rfl : k = hs.length := by omega
      have HCON := Lib.hid (SortStable_any W.heap.size g hs.length cg 169 #[.pointer (some ⟨w.heap.size, 0, none⟩), .pointer (some ⟨w.heap.size + 1, 0, none⟩)] (fun x y => cmpC (cards hs) (i : Int) (j : Int) x.toNat y.toNat) (keyZ (cards hs) (i : Int) (j : Int)) wo Tryz.call169 (HCMP.out.later hbw) HKEY.out hown h40)
      have hgb : W.heap.size ≤ g := (hown.lt g rfl).1
      have HZB := Lib.hid hbw.size
      clear k1 k2 k3
      go_wp2_with fail
      refine HCON.out.mono ?_; rintro e w7 ⟨rfl, hown7, hg7⟩
      have HB7 := Lib.hid (hbw.trans (grown_base hg7 hgb HZB.out))
      have HOWN := Lib.hid (show w7.ownsRow w.heap.size 2 1 (.slice (some ⟨g, 0, none⟩) hs.length cg) hs.length (ints (ordL (cards hs) (i : Int) (j : Int))) by
        unfold ordL
        rw [HCL.out]
        exact own_base hown7 T0.size)
      go_wp2
      go_ret
      exact ⟨_, cg, rfl, HOWN.out, T0.trans (HB7.out.mono T0.size)⟩
end Go.Proofs.YtmfoaggohlfflaaGreatDoor

/-! ### OrderBy; in the program and in the reference. -/
namespace Go.Proofs.YtmfoaggohlfflaaGreatDoor
open Go.RowKit

def ordRes (L : List (List Int)) (a b : Int) : List Int := if codeK L a b = 0 then ordL L a b else []
theorem ordRes_0 {L : List (List Int)} {a b : Int} (h : codeK L a b = 0) : ordRes L a b = ordL L a b := by unfold ordRes; rw [if_pos h]
theorem ordRes_1 {L : List (List Int)} {a b : Int} (h : codeK L a b ≠ 0) : ordRes L a b = [] := by unfold ordRes; rw [if_neg h]
theorem ordRes_len (L : List (List Int)) (a b : Int) : (ordRes L a b).length ≤ 40 := by
  by_cases h : codeK L a b = 0
  · rw [ordRes_0 h, ordL_length]
    exact deckOk_len (codeK_zero h).1
  · rw [ordRes_1 h]
    simp

end Go.Proofs.YtmfoaggohlfflaaGreatDoor

/-! ### SortedBy; in the program and in the reference. -/
namespace Go.Proofs.YtmfoaggohlfflaaGreatDoor
open Go.RowKit

theorem sortedL_pick (L : List (List Int)) (a b : Int) : sortedL L a b = pickL L (ordL L a b) := rfl
def sbRes (L : List (List Int)) (a b : Int) : List (List Int) := if codeK L a b = 0 then sortedL L a b else []
theorem sbRes_0 {L : List (List Int)} {a b : Int} (h : codeK L a b = 0) : sbRes L a b = sortedL L a b := by unfold sbRes; rw [if_pos h]
theorem sbRes_1 {L : List (List Int)} {a b : Int} (h : codeK L a b ≠ 0) : sbRes L a b = [] := by unfold sbRes; rw [if_neg h]
theorem sbRes_bound (L : List (List Int)) (a b : Int) {gs : List Hd} (h : cards gs = sbRes L a b) : gs.length + tot gs ≤ 840 := by
  by_cases hz : codeK L a b = 0
  · rw [sbRes_0 hz] at h
    refine sub_bound (fun x hx => (sortedL_perm L a b).mem_iff.1 hx) ?_ (codeK_zero hz).1 h
    rw [sortedL_length]
    exact deckOk_len (codeK_zero hz).1
  · rw [sbRes_1 hz] at h
    have : gs = [] := by
      cases gs with
      | nil => rfl
      | cons x gs => simp [cards] at h
    subst this
    simp [tot]

set_option maxRecDepth 20000 in
set_option maxHeartbeats 4000000 in
theorem sortedBy_any (D : Option Addr) (c : Nat) (hs : List Hd) (i j : Nat) (w : World) (ha : RdD w w.heap.size D hs) (hok : deckOk (cards hs) = true) (hij : i < j) (hj : j ≤ deckW (cards hs)) (hl : hs.length + tot hs ≤ 1048576) :
    Calls Tryz.prog 109 #[.slice D hs.length c, .agg #[.int .i64 (i : Int), .int .i64 (j : Int)]] w fun e w' => ∃ E ce gs, e = .returned (.slice E gs.length ce) ∧ cards gs = sortedL (cards hs) (i : Int) (j : Int) ∧ ObD w' w.heap.size w'.heap.size 41 2 E ce gs ∧ Below w.heap.size w w' := by
  obtain ⟨j0, hj0, hj0', hj1, hj2⟩ := info_parts info_cardD
  obtain ⟨w1, hw1⟩ : ∃ w1, w1 = w.alloc (.cells #[.int .i64 (i : Int), .int .i64 (j : Int)] 27) := ⟨_, rfl⟩
  have T1 : Below w.heap.size w w1 := by rw [hw1]; exact ba (b0 w) _
  have rbase : RdD w1 w1.heap.size D hs := by rw [hw1]; exact ha.a1 _
  have k2 : w1.cell? ⟨w.heap.size, 0, none⟩ = some (.int .i64 (i : Int)) := by rw [hw1]; exact cell_new rfl rfl
  have k3 : w1.cell? ⟨w.heap.size, 1, none⟩ = some (.int .i64 (j : Int)) := by rw [hw1]; exact cell_new rfl rfl
  have HW := Lib.hid hw1
  have HWS := Lib.hid (show w1.heap.size = w.heap.size + 1 by rw [hw1]; simp)
  have HCL := Lib.hid (cards_length hs)
  have h40 : hs.length ≤ 40 := by have := deckOk_len hok; rwa [cards_length] at this
  have HMEM := Lib.hid (fun z (hz : z ∈ ordL (cards hs) (i : Int) (j : Int)) => ordL_mem hz)
  have HCO := Lib.hid (orderBy_any D c hs i j)
  obtain ⟨zs, hzs⟩ : ∃ zs, zs = ordL (cards hs) (i : Int) (j : Int) := ⟨_, rfl⟩
  have HZL := Lib.hid (show zs.length = hs.length by rw [hzs, ordL_length, cards_length])
  have HR := Lib.hid (show sortedL (cards hs) (i : Int) (j : Int) = pickL (cards hs) zs by rw [hzs]; rfl)
  rw [← hzs] at HMEM HCO
  have H1 := Lib.hid hok
  have r1 := rbase.a1 (.cells #[] 41)
  have k4 := cell_alloc k2 (.cells #[] 41)
  have k5 := cell_alloc k3 (.cells #[] 41)
  clear hw1 hzs hok ha k2 k3
  go_enter Tryz.func109, Tryz.ntmps109
  go_wp2_with fail
  rw [← HW.out]
  refine (HCO.out _ r1 H1.out hij hj hl).mono ?_; rintro e w2 ⟨G0, cg0, rfl, hownZ, hb2⟩
  rw [← HZL.out] at hownZ
  have hrow0 : w2.ownsRow w1.heap.size 41 1 (.slice (some ⟨w1.heap.size, 0, none⟩) 0 0) 0 [] := own_bs (own_lit w1 #[] 0 rfl (Nat.le_refl _) (by omega) rfl) hb2
  have T2 : Below w1.heap.size w1 w2 := bs (ba (b0 w1) (.cells #[] 41)) hb2
  have ho2 : Ob w2 w1.heap.size w2.heap.size 2 1 (.slice G0 zs.length cg0) zs.length (ints zs) := (Ob.of hownZ).mono (by simp) (Nat.le_refl _)
  have hzn : zs.length ≤ 40 := by rw [HZL.out]; exact h40
  clear hb2 r1 k4 k5 hownZ
  go_wp2
  go_loopw [5, 13] (fun o q wr => FgR (cards hs) zs G0 cg0 w1 wr o q) (fun _ q _ => zs.length - (intOf q).toNat)
  case atStart => exact ⟨0, _, _, [], Nat.zero_le _, rfl, by rw [HWS.out]; rfl, Nat.le_refl _, rfl, ObD.empty (Ob.of hrow0), ho2, T2⟩
  case round =>
    obtain ⟨wo, rfl⟩ : ∃ wo : World, wo = wr := ⟨_, rfl⟩
    obtain ⟨k, G, cg, gs, hk, rfl, rfl, hgk, hgc, hob, hoo, hbw⟩ := hrel
    have HGC := Lib.hid hgc
    clear hgc
    by_cases hlt : k < zs.length
    · obtain ⟨m, hm, hml, hgd⟩ := pick_at HMEM.out hlt
      have HS := Lib.hid (show pickL (cards hs) (zs.take (k + 1)) = pickL (cards hs) (zs.take k) ++ [hs[m].xs] by rw [pickL_succ _ _ _ hlt, hgd])
      have hra := rbase.up hbw
      obtain ⟨bz, oz, hG0, _, hcz⟩ := hoo.rd.at_ hlt
      have dz := hcz k _ (ints_get _ k hlt)
      rw [hm] at dz
      have rc := hra.card_at hml
      have hlc : hs[m].xs.length ≤ 1048576 := by have := tot_at hs m hml; omega
      obtain ⟨b1, o1, hD, _, hcell⟩ := hra.at_ hml
      have kc := hcell m hml
      have i1 : (k : Int) < (hs.length : Int) := by have := HZL.out; omega
      have i2 : (m : Int) < (hs.length : Int) := by omega
      subst hG0
      subst hD
      have hsz := hbw.size
      clear hm hgd hcz hcell hra
      go_wp2_with fail
      refine (newCard_any _ _ hs[m].xs _ rc hlc).mono ?_; rintro e w5 ⟨B, d, rfl, ho5, hb5⟩
      have hobN := hob.bs hb5
      have hooN := hoo.bs hb5
      have HCARD := Lib.hid (Ob.of ho5)
      have TB := bs hbw hb5
      have hbase := TB.size
      have hz5 := hb5.size
      clear ho5 hob hoo hb5 hbw rc kc dz
      go_wp2_with (at_builtin; refine wpList_ap rfl (.tmp 17) (.tmp 23) 24 rfl w1.heap.size 41 j0 _ 1 24 Tryz.underlying24 hj0 hj0' hj1 hj2 rfl (by omega) _ gs.length _ (heads gs) rfl w5 hobN.row.1 1 #[.slice B hs[m].xs.length d] w5.heap.size rfl rfl rfl (one_slice _ _ _) (by omega) (by omega) (by omega) hbase ?_; intro gg cap w6 hown6 hb6 hg6 _ _)
      have HO := Lib.hid (hobN.snoc (by decide) HCARD.out (Nat.le_refl _) hsz hown6 hg6 hz5 (Nat.le_refl _))
      have HOO := Lib.hid ((hooN.kept hg6 (own_ne hooN.1 hobN.row.1 (by decide))).mono (Nat.le_refl _) (show wo.heap.size ≤ w6.heap.size from Nat.le_trans hz5 hg6.size))
      have HB := Lib.hid (TB.trans hb6)
      clear hown6 hb6 hg6 hobN hooN TB
      go_wp2
      go_roundw
      case rel =>
        have P : FgR (cards hs) zs (some ⟨bz, oz, none⟩) cg0 w1 w6 (.slice (some ⟨gg, 0, none⟩) (gs.length + 1) cap) (.int .i64 ((k : Int) + 1)) := ⟨k + 1, some ⟨gg, 0, none⟩, cap, gs ++ [⟨B, d, hs[m].xs⟩], by omega, by go_num, by rw [List.length_append]; rfl, by rw [List.length_append]; simp only [List.length_singleton]; omega, by rw [HS.out, cards_append, HGC.out]; rfl, HO.out, HOO.out, HB.out⟩
        first | exact P | exact ⟨_, P, rfl⟩ | exact ⟨_, _, P, rfl, rfl⟩ | exact ⟨_, _, _, P, rfl, rfl, rfl⟩ | exact ⟨_, _, _, _, P, rfl, rfl, rfl, rfl⟩ | exact ⟨_, _, _, _, _, P, rfl, rfl, rfl, rfl, rfl⟩ | exact ⟨_, _, _, _, _, _, P, rfl, rfl, rfl, rfl, rfl, rfl⟩ | exact ⟨_, _, _, _, _, _, _, P, rfl, rfl, rfl, rfl, rfl, rfl, rfl⟩ | exact ⟨_, _, _, _, _, _, _, _, P, rfl, rfl, rfl, rfl, rfl, rfl, rfl, rfl⟩
      case measure => (simp [intOf]; try omega)
    · obtain rfl : k = zs.length := by omega
      have HK := Lib.hid (show cards gs = sortedL (cards hs) (i : Int) (j : Int) by rw [HGC.out, HR.out, List.take_of_length_le (Nat.le_refl _)])
      have i3 : ¬ (zs.length : Int) < (hs.length : Int) := by have := HZL.out; omega
      go_wp2
      go_ret
      exact ⟨G, cg, gs, rfl, HK.out, hob.mono T1.size (Nat.le_refl _), bs T1 hbw⟩

end Go.Proofs.YtmfoaggohlfflaaGreatDoor
