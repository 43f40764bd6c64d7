/- Draws of decks. -/
import Derived.Test.YtdppmlchabogaaaDraw
import Derived.Test.YtdppmlchabogaaaDecks
namespace Go.Proofs.Ytdppmlchabogaaa
open Go.RowKit

/-! ### decks -/
def GoodX (wd : Nat) (x : List Int) : Prop := x.length = wd ∧ x.all legalM = true ∧ x.all holeB = true
def GoodD (wd : Nat) (L : List (List Int)) : Prop := ∀ x ∈ L, GoodX wd x
theorem code_good : ∀ n : Fin 256, decide (0 ≤ codeV n.val) = true → legalM (codeV n.val) = true ∧ holeB (codeV n.val) = true := by decide +kernel
theorem good_text {t : ByteArray} {wd : Nat} (hn : t.size = wd) (h : chaB t = true) : GoodX wd (codL t) := by
  refine ⟨by rw [codL_length, hn], ?_, ?_⟩
  · refine List.all_eq_true.2 fun x hx => ?_
    obtain ⟨c, hc, rfl⟩ := List.mem_map.1 hx
    exact (code_good ⟨c.toNat, c.toNat_lt⟩ (List.all_eq_true.1 h c hc)).1
  · refine List.all_eq_true.2 fun x hx => ?_
    obtain ⟨c, hc, rfl⟩ := List.mem_map.1 hx
    exact (code_good ⟨c.toNat, c.toNat_lt⟩ (List.all_eq_true.1 h c hc)).2
theorem good_snoc {wd : Nat} {L : List (List Int)} {x : List Int} (h : GoodD wd L) (hx : GoodX wd x) : GoodD wd (L ++ [x]) := by
  intro y hy
  rcases List.mem_append.1 hy with hy | hy
  · exact h y hy
  · rw [List.mem_singleton] at hy
    exact hy ▸ hx
def DwR (p K wd m : Nat) (w wr : World) (o q : Value) : Prop := ∃ (j : Nat) (D : Option Addr) (c : Nat) (gs : List Hd), q = .int .i64 j ∧ o = .slice D gs.length c ∧ gs.length + j ≤ m ∧ j ≤ m ∧ GoodD wd (cards gs) ∧
  ObD wr w.heap.size wr.heap.size 37 2 D c gs ∧ Chg p (p + 1) w wr ∧ SrcK wr p (K + 2 + 100 * (m - j))

set_option maxRecDepth 20000 in
set_option maxHeartbeats 8000000 in
theorem l07Draw_any (p K wd m : Nat) (w : World) (h : SrcK w p K) (hK : K ≤ 100000) (hwd : wd ≤ 20) (hm : m ≤ 39) :
    Calls Try.prog 113 #[.pointer (some ⟨p, 0, none⟩), .int .i64 (wd : Int), .int .i64 (m : Int)] w fun e w' => ∃ D c gs, e = .returned (.slice D gs.length c) ∧ gs.length ≤ m ∧ GoodD wd (cards gs) ∧
      ObD w' w.heap.size w'.heap.size 37 2 D c gs ∧ SrcK w' p (K + 2 + 100 * m) ∧ Chg p (p + 1) w w' := by
  obtain ⟨i0, hi, hz0, hz1, hz2⟩ := info_parts info_cardD
  have hlt := h.lt
  have z1 : IntKind.i64.wrap ((m : Int) + 1) = (m : Int) + 1 := by rw [IntKind.wrap_i64]; omega
  have TA := ba (b0 w) (.cells #[] 37)
  have hA := h.later TA
  go_enter Try.func113, Try.ntmps113
  go_wp2_with fail
  refine (pick_any p K ((m : Int) + 1) _ hA (by omega) (by omega)).mono ?_
  rintro e w1 ⟨x, hx, rfl, hs1, hc1⟩
  have hxm : x ≤ m := by omega
  have HC1 := Lib.hid (((Chg.refl p (p + 1) w).then TA (Nat.le_refl _)).trans hc1)
  have hrow : (w.alloc (.cells #[] 37)).ownsRow w.heap.size 37 1 (.slice (some ⟨w.heap.size, 0, none⟩) 0 0) 0 [] := own_lit w #[] 0 rfl (Nat.le_refl _) (by omega) rfl
  have HO1 := Lib.hid (Ob.of (own_chg hrow hc1 (by omega)))
  have HS1 := Lib.hid (hs1.more (show K + 2 ≤ K + 2 + 100 * (m - x) by omega))
  clear hc1 hs1 hrow TA hA hx z1
  go_wp2
  go_loopw [7, 8] (fun o q wr => DwR p K wd m w wr o q) (fun _ q _ => (intOf q).toNat)
  case atStart => exact ⟨x, some ⟨w.heap.size, 0, none⟩, 0, [], rfl, rfl, by simpa using hxm, hxm, by simp [GoodD, cards], ObD.empty HO1.out, HC1.out, HS1.out⟩
  case round =>
    obtain ⟨wo, rfl⟩ : ∃ wo : World, wo = wr := ⟨_, rfl⟩
    obtain ⟨j', D, c, gs, rfl, rfl, hgj, hj', hgd, hob, hch, hsr⟩ := hrel
    have HGD := Lib.hid hgd
    have HCH := Lib.hid hch
    have hzz := hch.size
    clear hgd hch
    by_cases hj : 0 < j'
    · obtain ⟨j, rfl⟩ : ∃ j, j' = j + 1 := ⟨j' - 1, by omega⟩
      have i1 : (0 : Int) < ((j + 1 : Nat) : Int) := by omega
      by_cases hg0 : 0 < gs.length
      · have i2 : (0 : Int) < (gs.length : Int) := by omega
        go_wp2_with fail
        refine (one_any p _ 4 _ hsr (by omega) (by omega)).mono ?_
        rintro e w2 (⟨rfl, hs2, hc2⟩ | ⟨rfl, hs2, hc2⟩)
        · have hob2 := hob.chg hc2 (.inr (by omega))
          have HC2 := Lib.hid (HCH.out.trans hc2)
          have hzz2 := hc2.size
          clear hob hc2 hsr
          go_wp2_with fail
          refine (pick_any p _ (gs.length : Int) _ hs2 (by omega) (by omega)).mono ?_
          rintro e w3 ⟨x2, hx2, rfl, hs3, hc3⟩
          have hx2l : x2 < gs.length := by omega
          have hzz3 := hc3.size
          have hob3 := hob2.chg hc3 (.inr (by omega))
          have HC3 := Lib.hid (HC2.out.trans hc3)
          have HS3 := Lib.hid hs3
          have hrd3 := hob3.rd
          have rc := hrd3.card_at hx2l
          obtain ⟨b, off, hD, hbb, hcell⟩ := hrd3.at_ hx2l
          have k1 := hcell x2 hx2l
          have HG := Lib.hid (show GoodX wd gs[x2].xs from HGD.out _ (List.mem_map.2 ⟨gs[x2], List.getElem_mem hx2l, rfl⟩))
          have hxl : gs[x2].xs.length ≤ 1048576 := by have := HG.out.1; omega
          have i3 : (x2 : Int) < (gs.length : Int) := by omega
          have hob3' := hob3
          subst hD
          clear hcell hrd3 hob2 hs2 hs3 hc3 hx2 hob3
          go_wp2_with fail
          refine (l02Own_any b (off + x2) gs[x2].a gs[x2].c gs[x2].xs _ k1 rc hxl).mono ?_; rintro e w4 ⟨B, d, rfl, ho4, hb4⟩
          have HCC := Lib.hid (Ob.of ho4)
          have hob4 := hob3'.bs hb4
          have HC4 := Lib.hid (HC3.out.then hb4 HC3.out.size)
          have HS4 := Lib.hid (HS3.out.later hb4)
          have HZ := Lib.hid hb4.size
          have HSZ := Lib.hid HC3.out.size
          have hbase := HC4.out.size
          have hln : gs.length ≤ 40 := by omega
          clear ho4 hb4 hob3' k1 rc
          go_wp2_with (at_builtin; refine wpList_ap rfl (.tmp 25) (.tmp 33) 24 rfl w.heap.size 37 i0 _ 1 24 Try.underlying24 hi hz0 hz1 hz2 rfl (by omega) _ gs.length _ (heads gs) rfl w4 hob4.row.1 1 #[.slice B gs[x2].xs.length d] w4.heap.size rfl rfl rfl (one_slice _ _ _) (by omega) (by omega) (by omega) hbase ?_; intro g cap w5 hown5 hb5 hg5 _ _)
          have HO := Lib.hid (hob4.mono (Nat.le_refl _) (show _ ≤ w3.heap.size by omega) |>.snoc (by decide) HCC.out (Nat.le_refl _) HSZ.out hown5 hg5 HZ.out (Nat.le_refl _))
          have HC := Lib.hid (HC4.out.then hb5 (Nat.le_refl _))
          have HS := Lib.hid ((HS4.out.below hb5 hlt).more (show _ ≤ K + 2 + 100 * (m - j) by omega))
          have HGG := Lib.hid (good_snoc HGD.out HG.out)
          clear hown5 hb5 hg5 hob4 hbase
          go_wp2
          go_roundw
          case rel => exact ⟨j, some ⟨g, 0, none⟩, cap, gs ++ [⟨B, d, gs[x2].xs⟩], by go_num, by rw [List.length_append]; rfl, by rw [List.length_append, List.length_singleton]; omega, by omega, by rw [cards_append]; exact HGG.out, HO.out, HC.out, HS.out⟩
          case measure => (simp [intOf]; try omega)
        · have hob2 := hob.chg hc2 (.inr (by omega))
          have HC2 := Lib.hid (HCH.out.trans hc2)
          have hzz2 := hc2.size
          clear hob hc2 hsr
          go_wp2_with fail
          refine (l03DrawText_any p _ wd _ hs2 (by omega)).mono ?_
          rintro e w3 ⟨tb, htb, hta, rfl, hs3, hc3⟩
          have hzz3 := hc3.size
          have hob3 := hob2.chg hc3 (.inr (by omega))
          have HC3 := Lib.hid (HC2.out.trans hc3)
          have HS3 := Lib.hid hs3
          have HG := Lib.hid (good_text htb hta)
          have HTB := Lib.hid htb
          clear hob2 hc3 hs2 hs3 hta htb
          go_wp2_with fail
          refine (l03Card_any tb _ (by rw [HTB.out]; omega)).mono ?_
          rintro e w4 ⟨B, d, rfl, ho4, hb4⟩
          have HCC := Lib.hid (Ob.of (show w4.ownsRow w3.heap.size 2 1 (.slice B (codL tb).length d) (codL tb).length (ints (codL tb)) by rw [codL_length]; exact ho4))
          have HTL := Lib.hid (codL_length tb)
          have hob4 := hob3.bs hb4
          have HC4 := Lib.hid (HC3.out.then hb4 HC3.out.size)
          have HS4 := Lib.hid (HS3.out.later hb4)
          have HZ := Lib.hid hb4.size
          have HSZ := Lib.hid HC3.out.size
          have hbase := HC4.out.size
          have hln : gs.length ≤ 40 := by omega
          clear ho4 hb4 hob3
          go_wp2_with (at_builtin; refine wpList_ap rfl (.tmp 35) (.tmp 40) 24 rfl w.heap.size 37 i0 _ 1 24 Try.underlying24 hi hz0 hz1 hz2 rfl (by omega) _ gs.length _ (heads gs) rfl w4 hob4.row.1 1 #[.slice B tb.size d] w4.heap.size rfl rfl rfl (one_slice _ _ _) (by omega) (by omega) (by omega) hbase ?_; intro g cap w5 hown5 hb5 hg5 _ _)
          have HO := Lib.hid (hob4.mono (Nat.le_refl _) (show _ ≤ w3.heap.size by omega) |>.snoc (by decide) HCC.out (Nat.le_refl _) HSZ.out (by rw [HTL.out]; exact hown5) hg5 HZ.out (Nat.le_refl _))
          have HC := Lib.hid (HC4.out.then hb5 (Nat.le_refl _))
          have HS := Lib.hid ((HS4.out.below hb5 hlt).more (show _ ≤ K + 2 + 100 * (m - j) by omega))
          have HGG := Lib.hid (good_snoc HGD.out HG.out)
          clear hown5 hb5 hg5 hob4 hbase
          go_wp2
          go_roundw
          case rel => exact ⟨j, some ⟨g, 0, none⟩, cap, gs ++ [⟨B, d, codL tb⟩], by go_num, by rw [List.length_append]; rfl, by rw [List.length_append, List.length_singleton]; omega, by omega, by rw [cards_append]; exact HGG.out, HO.out, HC.out, HS.out⟩
          case measure => (simp [intOf]; try omega)
      · have i2 : ¬ (0 : Int) < (gs.length : Int) := by omega
        go_wp2_with fail
        refine (l03DrawText_any p _ wd _ hsr (by omega)).mono ?_
        rintro e w3 ⟨tb, htb, hta, rfl, hs3, hc3⟩
        have hzz3 := hc3.size
        have hob3 := hob.chg hc3 (.inr (by omega))
        have HC3 := Lib.hid (HCH.out.trans hc3)
        have HS3 := Lib.hid hs3
        have HG := Lib.hid (good_text htb hta)
        have HTB := Lib.hid htb
        clear hob hc3 hsr hs3 hta htb
        go_wp2_with fail
        refine (l03Card_any tb _ (by rw [HTB.out]; omega)).mono ?_
        rintro e w4 ⟨B, d, rfl, ho4, hb4⟩
        have HCC := Lib.hid (Ob.of (show w4.ownsRow w3.heap.size 2 1 (.slice B (codL tb).length d) (codL tb).length (ints (codL tb)) by rw [codL_length]; exact ho4))
        have HTL := Lib.hid (codL_length tb)
        have hob4 := hob3.bs hb4
        have HC4 := Lib.hid (HC3.out.then hb4 HC3.out.size)
        have HS4 := Lib.hid (HS3.out.later hb4)
        have HZ := Lib.hid hb4.size
        have HSZ := Lib.hid HC3.out.size
        have hbase := HC4.out.size
        have hln : gs.length ≤ 40 := by omega
        clear ho4 hb4 hob3
        go_wp2_with (at_builtin; refine wpList_ap rfl (.tmp 35) (.tmp 40) 24 rfl w.heap.size 37 i0 _ 1 24 Try.underlying24 hi hz0 hz1 hz2 rfl (by omega) _ gs.length _ (heads gs) rfl w4 hob4.row.1 1 #[.slice B tb.size d] w4.heap.size rfl rfl rfl (one_slice _ _ _) (by omega) (by omega) (by omega) hbase ?_; intro g cap w5 hown5 hb5 hg5 _ _)
        have HO := Lib.hid (hob4.mono (Nat.le_refl _) (show _ ≤ w3.heap.size by omega) |>.snoc (by decide) HCC.out (Nat.le_refl _) HSZ.out (by rw [HTL.out]; exact hown5) hg5 HZ.out (Nat.le_refl _))
        have HC := Lib.hid (HC4.out.then hb5 (Nat.le_refl _))
        have HS := Lib.hid ((HS4.out.below hb5 hlt).more (show _ ≤ K + 2 + 100 * (m - j) by omega))
        have HGG := Lib.hid (good_snoc HGD.out HG.out)
        clear hown5 hb5 hg5 hob4 hbase
        go_wp2
        go_roundw
        case rel => exact ⟨j, some ⟨g, 0, none⟩, cap, gs ++ [⟨B, d, codL tb⟩], by go_num, by rw [List.length_append]; rfl, by rw [List.length_append, List.length_singleton]; omega, by omega, by rw [cards_append]; exact HGG.out, HO.out, HC.out, HS.out⟩
        case measure => (simp [intOf]; try omega)
    · obtain rfl : j' = 0 := by omega
      go_wp2
      go_ret
      exact ⟨D, c, gs, rfl, by omega, HGD.out, hob, by simpa using hsr, HCH.out⟩
end Go.Proofs.Ytdppmlchabogaaa
