/- orderBy: the places of a deck in the order of a field; in the program. -/
import Derived.Test.YtdppmlchabogaaaSortLib
import Derived.Test.YtdppmlchabogaaaSortKey
import Derived.Test.YtdppmlchabogaaaDecks
namespace Go.Proofs.Ytdppmlchabogaaa
open Go.RowKit

set_option maxHeartbeats 2000000 in
theorem orderBy1_any (bd bf : Nat) (D : Option Addr) (c : Nat) (hs : List Hd) (x y i j : Nat) (w : World) (hd : w.cell? ⟨bd, 0, none⟩ = some (.slice D hs.length c)) (h1 : w.cell? ⟨bf, 0, none⟩ = some (.int .i64 (i : Int))) (h2 : w.cell? ⟨bf, 1, none⟩ = some (.int .i64 (j : Int)))
    (ha : RdD w w.heap.size D hs) (hok : deckOk (cards hs) = true) (hij : i < j) (hj : j ≤ deckW (cards hs)) (hl : hs.length + tot hs ≤ 1048576) (hx : x < hs.length) (hy : y < hs.length) :
    Calls Try.prog 218 #[.int .i64 (x : Int), .int .i64 (y : Int), .pointer (some ⟨bd, 0, none⟩), .pointer (some ⟨bf, 0, none⟩)] w fun e w' => e = .returned (.int .i64 (cmpC (cards hs) (i : Int) (j : Int) x y)) ∧ Below w.heap.size w w' := by
  have rc := ha.card_at hx
  have rc' := ha.card_at hy
  have hcap := ha.cap_at hx
  have hcap' := ha.cap_at hy
  have hlc : hs[x].xs.length ≤ 1048576 := by have := tot_at hs x hx; omega
  have hlc' : hs[y].xs.length ≤ 1048576 := by have := tot_at hs y hy; omega
  have hjk : j ≤ hs[x].xs.length := by rw [← deckW_at hok hx]; exact hj
  have hjk' : j ≤ hs[y].xs.length := by rw [← deckW_at hok hy]; exact hj
  obtain ⟨z, hz⟩ : ∃ z, z = cmpR (part hs[x].xs (i : Int) (j : Int)) (part hs[y].xs (i : Int) (j : Int)) := ⟨_, rfl⟩
  have HZ := Lib.hid hz
  have HZC := Lib.hid (show z = cmpC (cards hs) (i : Int) (j : Int) x y by rw [hz, cmpC_hd hx hy])
  obtain ⟨b1, o1, rfl, _, hcell⟩ := ha.at_ hx
  have d1 := hcell x hx
  have d2 := hcell y hy
  have l0 := fun x : Later w => lat_cell x hd
  have l1 := fun x : Later w => lat_cell x d1
  have l2 := fun x : Later w => lat_cell x d2
  have l3 := fun x : Later w => lat_cell x h1
  have l4 := fun x : Later w => lat_cell x h2
  have i1 : (x : Int) < (hs.length : Int) := by omega
  have i2 : (y : Int) < (hs.length : Int) := by omega
  clear hz hcell d1 d2 ha hok hd h1 h2
  go_enter Try.func218, Try.ntmps218
  go_wp2_with fail
  refine wp_region_later (by kernel_rfl) (by kernel_rfl) ?_
  repeat (go_big_quiet_step ((go_at_call 219; exact lat_call (compareFields_z _ _ _ _ hs[x].xs hs[y].xs i j z _ HZ.out (lat_rd _ rc) (lat_rd _ rc') hij hjk hjk' hlc hlc' hcap hcap'))))
  refine wpQuiet_nil ?_
  intro w4 hb4
  go_wp2
  go_ret
  exact ⟨ret_int HZC.out, hb4⟩

/-- Behind k cards. -/
def OrR (n : Nat) (w wr : World) (o q : Value) : Prop := ∃ (k g cg : Nat), k ≤ n ∧ q = .int .i64 k ∧ o = .slice (some ⟨g, 0, none⟩) k cg ∧
  wr.ownsRow w.heap.size 2 1 (.slice (some ⟨g, 0, none⟩) k cg) k (ints (rowF (fun k => (k : Int)) k)) ∧ Below w.heap.size w wr

set_option maxRecDepth 20000 in
set_option maxHeartbeats 4000000 in
theorem orderBy_any (D : Option Addr) (c : Nat) (hs : List Hd) (i j : Nat) (w : World) (ha : RdD w w.heap.size D hs) (hok : deckOk (cards hs) = true) (hij : i < j) (hj : j ≤ deckW (cards hs)) (hl : hs.length + tot hs ≤ 1048576) :
    Calls Try.prog 116 #[.slice D hs.length c, .agg #[.int .i64 (i : Int), .int .i64 (j : Int)]] w fun e w' => ∃ G cg, e = .returned (.slice G hs.length cg) ∧
      w'.ownsRow w.heap.size 2 1 (.slice G hs.length cg) hs.length (ints (ordL (cards hs) (i : Int) (j : Int))) ∧ Below w.heap.size w w' := by
  obtain ⟨j0, hj0', hj0, hj1, hj2⟩ := info_parts info_i64K
  have HCL := Lib.hid (cards_length hs)
  have HOK := Lib.hid hok
  have h40 : hs.length ≤ 40 := by have := deckOk_len hok; rwa [cards_length] at this
  obtain ⟨W, hW⟩ : ∃ W, W = (w.alloc (.cells #[.slice D hs.length c] 24)).alloc (.cells #[.int .i64 (i : Int), .int .i64 (j : Int)] 27) := ⟨_, rfl⟩
  have T0 : Below w.heap.size w W := by rw [hW]; exact ba (ba (b0 w) _) _
  have ra : RdD W W.heap.size D hs := by rw [hW]; exact (ha.a1 _).a1 _
  have k1 : W.cell? ⟨w.heap.size, 0, none⟩ = some (.slice D hs.length c) := by rw [hW]; exact cell_alloc (cell_new rfl rfl) _
  have k2 : W.cell? ⟨w.heap.size + 1, 0, none⟩ = some (.int .i64 (i : Int)) := by rw [hW]; exact cell_new (by simp) rfl
  have k3 : W.cell? ⟨w.heap.size + 1, 1, none⟩ = some (.int .i64 (j : Int)) := by rw [hW]; exact cell_new (by simp) rfl
  have HW := Lib.hid hW
  have HWS := Lib.hid (show W.heap.size = w.heap.size + 1 + 1 by rw [hW]; simp)
  have HKEY := Lib.hid (fun (x y : Int) (h1 : 0 ≤ x) (h2 : x < hs.length) (h3 : 0 ≤ y) (h4 : y < hs.length) => (show cmpC (cards hs) (i : Int) (j : Int) x.toNat y.toNat < 0 ↔ keyZ (cards hs) (i : Int) (j : Int) x < keyZ (cards hs) (i : Int) (j : Int) y by
    have := (keyZ_cmp hok hij hj (p := x.toNat) (q := y.toNat) (by rw [cards_length]; omega) (by rw [cards_length]; omega)).1
    rwa [show ((x.toNat : Nat) : Int) = x by omega, show ((y.toNat : Nat) : Int) = y by omega] at this))
  have HCMP := Lib.hid (show CmpOk 218 #[.pointer (some ⟨w.heap.size, 0, none⟩), .pointer (some ⟨w.heap.size + 1, 0, none⟩)] (fun x y => cmpC (cards hs) (i : Int) (j : Int) x.toNat y.toNat) W.heap.size hs.length W from
    fun x y h1 h2 h3 h4 w' hb => by
      have := orderBy1_any w.heap.size (w.heap.size + 1) D c hs x.toNat y.toNat i j w' (cell_later hb k1) (cell_later hb k2) (cell_later hb k3) (ra.up hb) hok hij hj hl (by omega) (by omega)
      rw [show ((x.toNat : Nat) : Int) = x by omega, show ((y.toNat : Nat) : Int) = y by omega] at this
      exact this)
  clear hW hok
  go_enter Try.func116, Try.ntmps116
  go_wp2
  rw [← HW.out]
  go_loopw [5, 10] (fun o q wr => OrR hs.length W wr o q) (fun _ q _ => hs.length - (intOf q).toNat)
  case atStart =>
    refine ⟨0, w.heap.size + 1 + 1, 0, by omega, rfl, rfl, ?_, ba (b0 W) (.cells #[] 2)⟩
    exact own_lit W #[] 0 HWS.out.symm (Nat.le_refl _) (by omega) rfl
  case round =>
    obtain ⟨wo, rfl⟩ : ∃ wo : World, wo = wr := ⟨_, rfl⟩
    obtain ⟨k, g, cg, hk, rfl, rfl, hown, hbw⟩ := hrel
    by_cases hlt : k < hs.length
    · have i1 : (k : Int) < (hs.length : Int) := by omega
      have hbase := hbw.size
      go_wp2_with (at_builtin; refine wpList_ap rfl (.tmp 13) (.tmp 15) 29 rfl W.heap.size 2 j0 _ 1 8 Try.underlying29 hj0' hj0 hj1 hj2 rfl (by omega) _ k _ (ints (rowF (fun k => (k : Int)) k)) rfl wo hown 1 #[.int .i64 (k : Int)] wo.heap.size rfl rfl rfl (by intro v hv; simp at hv; subst hv; rfl) (by omega) (by omega) (by omega) hbase ?_; intro gg cap w6 hown6 hb6 hg6 _ _)
      have HO := Lib.hid (show w6.ownsRow W.heap.size 2 1 (.slice (some ⟨gg, 0, none⟩) (k + 1) cap) (k + 1) (ints (rowF (fun k => (k : Int)) (k + 1))) by rw [rowF_snoc, ints_snoc]; exact hown6)
      have HB := Lib.hid (hbw.trans hb6)
      clear hown6 hown hb6 hg6 hbw
      go_wp2
      go_roundw
      case rel =>
        have P : OrR hs.length W w6 (.slice (some ⟨gg, 0, none⟩) (k + 1) cap) (.int .i64 ((k : Int) + 1)) := ⟨k + 1, gg, cap, by omega, by go_num, rfl, HO.out, HB.out⟩
        first | exact P | exact ⟨_, P, rfl⟩ | exact ⟨_, _, P, rfl, rfl⟩ | exact ⟨_, _, _, P, rfl, rfl, rfl⟩ | exact ⟨_, _, _, _, P, rfl, rfl, rfl, rfl⟩ | exact ⟨_, _, _, _, _, P, rfl, rfl, rfl, rfl, rfl⟩ | exact ⟨_, _, _, _, _, _, P, rfl, rfl, rfl, rfl, rfl, rfl⟩ | exact ⟨_, _, _, _, _, _, _, P, rfl, rfl, rfl, rfl, rfl, rfl, rfl⟩ | exact ⟨_, _, _, _, _, _, _, _, P, rfl, rfl, rfl, rfl, rfl, rfl, rfl, rfl⟩
      case measure => (simp [intOf]; try omega)
    · obtain rfl : k = hs.length := by omega
      have HCON := Lib.hid (SortStable_any W.heap.size g hs.length cg 218 #[.pointer (some ⟨w.heap.size, 0, none⟩), .pointer (some ⟨w.heap.size + 1, 0, none⟩)] (fun x y => cmpC (cards hs) (i : Int) (j : Int) x.toNat y.toNat) (keyZ (cards hs) (i : Int) (j : Int)) wo Try.call218 (HCMP.out.later hbw) HKEY.out hown h40)
      have hgb : W.heap.size ≤ g := (hown.lt g rfl).1
      have HZB := Lib.hid hbw.size
      clear k1 k2 k3
      go_wp2_with fail
      refine HCON.out.mono ?_; rintro e w7 ⟨rfl, hown7, hg7⟩
      have HB7 := Lib.hid (hbw.trans (grown_base hg7 hgb HZB.out))
      have HOWN := Lib.hid (show w7.ownsRow w.heap.size 2 1 (.slice (some ⟨g, 0, none⟩) hs.length cg) hs.length (ints (ordL (cards hs) (i : Int) (j : Int))) by
        unfold ordL
        rw [HCL.out]
        exact own_base hown7 T0.size)
      go_wp2
      go_ret
      exact ⟨_, cg, rfl, HOWN.out, T0.trans (HB7.out.mono T0.size)⟩
end Go.Proofs.Ytdppmlchabogaaa
