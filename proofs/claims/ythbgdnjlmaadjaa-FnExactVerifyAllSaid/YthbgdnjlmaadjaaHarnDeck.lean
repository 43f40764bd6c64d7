/- The harness over decks. -/
import Derived.Test.YthbgdnjlmaadjaaHarnCard
import Derived.Test.YthbgdnjlmaadjaaDecks2
import Derived.Deep.RegionHeld3
namespace Go.Proofs.Ythbgdnjlmaadjaa
open Go.RowKit

theorem info_card : (Try.prog.info? 26).map (fun i => (i.zero, i.size, i.bytes)) = some (some (.agg #[.slice none 0 0]), 1, 24) := by kernel_rfl

set_option maxHeartbeats 1000000 in
theorem szCardS_yes (D : Option Addr) (c : Nat) (hs : List Hd) (l : Int) (w : World) (ha : RdD w w.heap.size D hs) (h0 : ((hs.length + tot hs : Nat) : Int) ≤ l) (h1 : l ≤ 1048576) :
    Calls Try.prog 60 #[.slice D hs.length c, .int .i64 l] w fun e w' => e = .returned (.int .i64 (l - (hs.length + tot hs : Nat))) ∧ Below w.heap.size w w' := by
  have h2 : ¬ (l - (hs.length : Int) < 0) := by omega
  go_enter Try.func60, Try.ntmps60
  go_wp2
  go_loopw [1, 5] (fun q i wr => ∃ k : Nat, k ≤ hs.length ∧ i = .int .i64 k ∧ q = .int .i64 (l - hs.length - (tot (hs.take k) : Nat)) ∧ Below w.heap.size w wr) (fun _ i _ => hs.length - (intOf i).toNat)
  case atStart => exact ⟨0, Nat.zero_le _, rfl, by simp [tot], b0 _⟩
  case round =>
    obtain ⟨k, hk, rfl, rfl, hbw⟩ := hrel
    by_cases hlt : k < hs.length
    · obtain ⟨b, off, rfl, hbb, hcell⟩ := ha.at_ hlt
      have h3 := (hbw.cell (p := ⟨b, off + k, none⟩) hbb).trans (hcell k hlt)
      have ht := tot_take_succ hs k hlt
      have hl := tot_take_le hs (k + 1)
      have h4 : ¬ (l - (hs.length : Int) - (tot (hs.take k) : Int) - (hs[k].xs.length : Int) < 0) := by omega
      have hq := Lib.hid ht
      clear hcell ha
      go_wp2_with fail
      refine (szCard_yes _ _ _ _ _ (by omega) (by omega)).mono ?_; rintro e w1 ⟨rfl, hb1⟩
      clear ht hl
      go_wp2
      go_roundw
      case rel => exact ⟨k + 1, by omega, by go_num, by rw [hq.out]; go_num, bs hbw hb1⟩
      case measure => simp [intOf]; omega
    · obtain rfl : k = hs.length := by omega
      have hq := Lib.hid (show hs.take hs.length = hs from List.take_length)
      go_wp2
      go_ret
      exact ⟨ret_int (by rw [hq.out]; omega), hbw⟩

set_option maxRecDepth 100000 in
set_option maxHeartbeats 1000000 in
theorem szCardS_no (D : Option Addr) (c : Nat) (hs : List Hd) (l : Int) (w : World) (ha : RdD w w.heap.size D hs) (h0 : ¬ ((hs.length + tot hs : Nat) : Int) ≤ l) (h1 : 0 ≤ l) (hm : hs.length ≤ maxLen ∧ ∀ h ∈ hs, h.xs.length ≤ maxLen) (h3 : l ≤ 1048576) :
    Calls Try.prog 60 #[.slice D hs.length c, .int .i64 l] w fun e w' => e = .returned (.int .i64 (-1)) ∧ Below w.heap.size w w' := by
  obtain ⟨hm1, hm2⟩ := hm
  unfold maxLen at hm1
  by_cases h2 : l < (hs.length : Int)
  · clear ha hm2
    go_enter Try.func60, Try.ntmps60
    go_wp2
    go_ret
    exact ⟨rfl, b0 _⟩
  have h4 : ¬ (l - (hs.length : Int) < 0) := by omega
  go_enter Try.func60, Try.ntmps60
  go_wp2
  go_loopw [1, 5] (fun q i wr => ∃ k : Nat, k ≤ hs.length ∧ i = .int .i64 k ∧ q = .int .i64 (l - hs.length - (tot (hs.take k) : Nat)) ∧ ((hs.length + tot (hs.take k) : Nat) : Int) ≤ l ∧ Below w.heap.size w wr) (fun _ i _ => hs.length - (intOf i).toNat)
  case atStart => exact ⟨0, Nat.zero_le _, rfl, by simp [tot], by simp [tot]; omega, b0 _⟩
  case round =>
    obtain ⟨k, hk, rfl, rfl, hle, hbw⟩ := hrel
    by_cases hlt : k < hs.length
    · obtain ⟨b, off, rfl, hbb, hcell⟩ := ha.at_ hlt
      have h5 := (hbw.cell (p := ⟨b, off + k, none⟩) hbb).trans (hcell k hlt)
      have ht := tot_take_succ hs k hlt
      have hx := hm2 _ (List.getElem_mem hlt)
      have hq := Lib.hid ht
      clear hcell ha hm2
      by_cases h6 : ((hs.length + tot (hs.take (k + 1)) : Nat) : Int) ≤ l
      · have h7 : ¬ (l - (hs.length : Int) - (tot (hs.take k) : Int) - (hs[k].xs.length : Int) < 0) := by omega
        have h8 := Lib.hid h6
        go_wp2_with fail
        refine (szCard_yes _ _ _ _ _ (by omega) (by omega)).mono ?_; rintro e w1 ⟨rfl, hb1⟩
        clear ht h6
        go_wp2
        go_roundw
        case rel => exact ⟨k + 1, by omega, by go_num, by rw [hq.out]; go_num, h8.out, bs hbw hb1⟩
        case measure => simp [intOf]; omega
      · go_wp2_with fail
        refine (szCard_no _ _ _ _ _ (by omega) (by omega) hx (by omega)).mono ?_; rintro e w1 ⟨rfl, hb1⟩
        clear ht h6
        go_wp2
        go_ret
        exact ⟨rfl, bs hbw hb1⟩
    · obtain rfl : k = hs.length := by omega
      rw [List.take_length] at hle
      exfalso
      omega

set_option maxHeartbeats 1000000 in
theorem eqCardS_same (D D' : Option Addr) (c c' : Nat) (hs gs : List Hd) (w : World) (ha : RdD w w.heap.size D hs) (hb : RdD w w.heap.size D' gs) (he : cards hs = cards gs) (hl : hs.length + tot hs ≤ 1048576) :
    Calls Try.prog 69 #[.slice D hs.length c, .slice D' gs.length c'] w fun e w' => e = .returned (.bool true) ∧ Below w.heap.size w w' := by
  obtain ⟨hlen, hxs⟩ := cards_same he
  rw [← hlen]
  have Hlen := Lib.hid hlen
  clear hlen he
  go_enter Try.func69, Try.ntmps69
  go_wp2
  go_loopw [5] (fun i wr => ∃ k : Nat, k ≤ hs.length ∧ i = .int .i64 k ∧ Below w.heap.size w wr) (fun i _ => hs.length - (intOf i).toNat)
  case atStart => exact ⟨0, Nat.zero_le _, rfl, b0 _⟩
  case round =>
    obtain ⟨k, hk, rfl, hbw⟩ := hrel
    by_cases hlt : k < hs.length
    · have hlt' : k < gs.length := by rw [← Hlen.out]; exact hlt
      obtain ⟨b, off, hD, hbb, hcell⟩ := ha.at_ hlt
      obtain ⟨b', off', hD', hbb', hcell'⟩ := hb.at_ hlt'
      subst hD
      subst hD'
      have hx := hxs k hlt hlt'
      have k1 := (hbw.cell (p := ⟨b, off + k, none⟩) hbb).trans (hcell k hlt)
      have k2 := (hbw.cell (p := ⟨b', off' + k, none⟩) hbb').trans (hcell' k hlt')
      rw [← hx] at k2
      have r1 := ((ha.below hbw).card_at hlt).more hbw.size
      have r2 := ((hb.below hbw).card_at hlt').more hbw.size
      rw [← hx] at r2
      have hlc : hs[k].xs.length ≤ 1048576 := by have := tot_at hs k hlt; omega
      clear hcell hcell' ha hb hxs hx Hlen
      go_wp2_with fail
      go_region_held3 (fun w' => w'.cell? ⟨b, off + k, none⟩ = some (.slice hs[k].a hs[k].xs.length hs[k].c) ∧ w'.cell? ⟨b', off' + k, none⟩ = some (.slice gs[k].a hs[k].xs.length gs[k].c)) (first | exact ⟨k1, k2⟩ | go_keep)
        (first
          | (go_at_call 68; refine (eqCard_same _ _ _ _ hs[k].xs _ ?_ ?_ ?_).mono ?_; (exact r1); (exact r2); (exact hlc); rintro e w1 ⟨rfl, hb1⟩; have hb1 : Below wr.heap.size wr w1 := ⟨hb1.os, hb1.tape, hb1.output, hb1.size, hb1.block⟩; replace k1 := cell_later hb1 k1; replace k2 := cell_later hb1 k2)
        )
      go_wp2
      go_roundw
      case rel => exact ⟨k + 1, by omega, by go_num, bs hbw hb1⟩
      case measure => simp [intOf]; omega
    · go_wp2
      go_ret
      exact ⟨rfl, hbw⟩

set_option maxHeartbeats 1000000 in
theorem toCardS_any (D : Option Addr) (c : Nat) (hs : List Hd) (w : World) (ha : RdD w w.heap.size D hs) (hl : hs.length + tot hs ≤ 1048576) :
    Calls Try.prog 64 #[.slice D hs.length c] w fun e w' => ∃ g gs, e = .returned (.slice (some ⟨g, 0, none⟩) gs.length gs.length) ∧
      cards gs = cards hs ∧ ObD w' w.heap.size w'.heap.size 26 2 (some ⟨g, 0, none⟩) gs.length gs ∧ Below w.heap.size w w' := by
  obtain ⟨i0, hi, hz0, hz1, hz2⟩ := info_parts info_card
  go_enter Try.func64, Try.ntmps64
  go_wp2_with (at_make; refine wpList_make_full _ rfl _ _ 45 rfl w.heap.size 26 i0 (.agg #[.slice none 0 0]) 1 Try.underlying45 hi hz0 hz1 _ _ _ _ hs.length rfl rfl rfl rfl (by rw [hz2]; omega) (by unfold maxLen; omega) (Nat.le_refl _) ?_; intro w1 hown1 hgrow1)
  go_loopw [4] (fun i wr => ∃ (k : Nat) (gs : List Hd), k ≤ hs.length ∧ i = .int .i64 k ∧ gs.length = k ∧ cards gs = cards (hs.take k) ∧ PaD wr w.heap.size wr.heap.size 26 2 (some ⟨w.heap.size, 0, none⟩) hs.length hs.length gs ∧ Below w.heap.size w wr)
    (fun i _ => hs.length - (intOf i).toNat)
  case atStart => exact ⟨0, [], Nat.zero_le _, rfl, rfl, by simp [cards], PaD.start (Ob.of hown1), (Below.refl _ _).grown hgrow1 (Nat.le_refl _) (by simp)⟩
  case round =>
    obtain ⟨k, gs, hk, rfl, hgl, hgc, hpa, hbw⟩ := hrel
    have HG := Lib.hid hgl
    have HC := Lib.hid hgc
    clear hgl hgc hown1 hgrow1
    by_cases hlt : k < hs.length
    · obtain ⟨b, off, hD, hbb, hcell⟩ := ha.at_ hlt
      subst hD
      have k1 := (hbw.cell (p := ⟨b, off + k, none⟩) hbb).trans (hcell k hlt)
      have r1 := ((ha.below hbw).card_at hlt).more hbw.size
      have hlc : hs[k].xs.length ≤ 1048576 := by have := tot_at hs k hlt; omega
      clear hcell
      go_wp2_with fail
      refine (toCard_any _ _ _ _ r1 hlc).mono ?_; rintro e w2 ⟨g2, rfl, ho2, hb2⟩
      have hpa2 := hpa.bs hb2
      obtain ⟨⟨v, hcy⟩, hfy, _, hgg⟩ := hpa2.cell hlt
      have hst := hpa2.step (by decide) (by rw [HG.out]; exact hlt) (Ob.of ho2) (Nat.le_refl _) hbw.size (Nat.le_refl _) hb2.size
      rw [HG.out] at hst
      have HST := Lib.hid hst
      have HB := Lib.hid (bset (bs hbw hb2) w.heap.size k (.slice (some ⟨g2, 0, none⟩) hs[k].xs.length hs[k].xs.length) (Nat.le_refl _))
      clear hst hpa2 hpa ho2
      go_wp2
      go_roundw
      case rel => exact ⟨k + 1, gs ++ [⟨some ⟨g2, 0, none⟩, hs[k].xs.length, hs[k].xs⟩], by omega, by go_num, by rw [List.length_append, HG.out]; rfl, by rw [cards_append, HC.out, cards_snoc hs k hlt]; rfl, by simpa using HST.out, HB.out⟩
      case measure => simp [intOf]; omega
    · obtain rfl : k = hs.length := by omega
      rw [List.take_length] at HC
      have hob := hpa.full HG.out
      have HG' := HG.out
      go_wp2
      go_ret
      rw [← HG']
      rw [← HG'] at hob
      exact ⟨_, gs, rfl, HC.out, hob, hbw⟩

set_option maxHeartbeats 1000000 in
theorem markCardS_any (D : Option Addr) (c lo hi : Nat) (hs : List Hd) (k0 : Int) (w : World) (ho : ObD w lo hi 26 2 D c hs) (hl : hs.length + tot hs ≤ 1048576) (h0 : 0 ≤ k0) (h1 : k0 ≤ 549755813888) :
    Calls Try.prog 72 #[.slice D hs.length c, .int .i64 k0] w fun e w' => e = .returned (.int .i64 (k0 + (tot hs : Nat))) ∧
      ObD w' lo hi 26 2 D c (markD k0 hs) ∧ Chg lo hi w w' := by
  go_enter Try.func72, Try.ntmps72
  go_wp2
  go_loopw [1, 5] (fun q i wr => ∃ k : Nat, k ≤ hs.length ∧ i = .int .i64 k ∧ q = .int .i64 (k0 + (tot (hs.take k) : Nat)) ∧ ObD wr lo hi 26 2 D c (markTo k0 k hs) ∧ Chg lo hi w wr) (fun _ i _ => hs.length - (intOf i).toNat)
  case atStart => exact ⟨0, Nat.zero_le _, rfl, by simp [tot], by rw [markTo_zero]; exact ho, Chg.refl _ _ _⟩
  case round =>
    obtain ⟨k, hk, rfl, rfl, hob, hch⟩ := hrel
    by_cases hlt : k < hs.length
    · have hlt' : k < (markTo k0 k hs).length := by rw [markTo_length]; exact hlt
      have hat := markTo_at k0 k hs hlt
      obtain ⟨b, off, hD, hbb, hcell⟩ := hob.rd.at_ hlt'
      subst hD
      have k1 := hcell k hlt'
      rw [hat] at k1
      have hcb := hob.card _ (List.getElem_mem hlt')
      rw [hat] at hcb
      have ht := tot_take_succ hs k hlt
      have hle := tot_take_le hs (k + 1)
      have hmk : ∀ w' : World, w'.ownsRow lo 2 1 (.slice hs[k].a hs[k].xs.length hs[k].c) hs[k].xs.length (ints (marks (k0 + (tot (hs.take k) : Int)) hs[k].xs.length)) → wr.grownBy w' (Value.slice hs[k].a hs[k].xs.length hs[k].c).ownBlock →
          ObD w' lo hi 26 2 (some ⟨b, off, none⟩) c (markTo k0 (k + 1) hs) ∧ Chg lo hi w w' := by
        intro w' h2 h3
        refine ⟨?_, hch.trans (hcb.turns h3)⟩
        have := hob.mark (by decide) hlt' (ys := marks (k0 + (tot (hs.take k) : Int)) hs[k].xs.length) (by rw [marks_length, hat]) (by rw [hat]; exact h2) (by rw [hat]; exact h3)
        rw [hat, markTo_succ _ _ _ hlt] at this
        exact this
      have HT := Lib.hid ht
      have HM := Lib.hid hmk
      clear hcell hmk hob hat ho
      go_wp2_with fail
      refine (markInt64S_any _ _ _ _ _ _ _ hcb.1 (by omega) (by omega) (by omega)).mono ?_; rintro e w1 ⟨rfl, ho1, hg1⟩
      have HF := Lib.hid (HM.out w1 ho1 hg1)
      clear ht hle ho1 hg1
      go_wp2
      go_roundw
      case rel => exact ⟨k + 1, by omega, by go_num, by rw [HT.out]; go_num, HF.out.1, HF.out.2⟩
      case measure => simp [intOf]; omega
    · obtain rfl : k = hs.length := by omega
      have HT := Lib.hid (show hs.take hs.length = hs from List.take_length)
      have HM := Lib.hid (markTo_all k0 hs)
      go_wp2
      go_ret
      rw [HM.out] at hob
      exact ⟨ret_int (by rw [HT.out]), hob, hch⟩

end Go.Proofs.Ythbgdnjlmaadjaa
