/- The harness over lists of decks. -/
import Derived.Test.YtkmclaijhkaimaaHarnDeck
import Derived.Test.YtkmclaijhkaimaaDecks2
import Derived.Test.YtkmclaijhkaimaaLater
namespace Go.Proofs.Ytkmclaijhkaimaa
open Go.RowKit

theorem info_deck : (Try.prog.info? 29).map (fun i => (i.zero, i.size, i.bytes)) = some (some (.slice none 0 0), 1, 24) := by kernel_rfl

set_option maxHeartbeats 1000000 in
theorem eqCardSS_same (D D' : Option Addr) (c c' : Nat) (ds es : List Dk) (w : World) (ha : RdDD w w.heap.size D ds) (hb : RdDD w w.heap.size D' es) (he : decks ds = decks es) (hl : ds.length + dtot ds ≤ 1048576) :
    Calls Try.prog 16 #[.slice D ds.length c, .slice D' es.length c'] w fun e w' => e = .returned (.bool true) ∧ Below w.heap.size w w' := by
  obtain ⟨hlen, hxs⟩ := decks_same he
  rw [← hlen]
  have Hlen := Lib.hid hlen
  have HXS := Lib.hid hxs
  clear hlen he hxs
  go_enter Try.func16, Try.ntmps16
  go_wp2
  go_loopw [5] (fun i wr => ∃ k : Nat, k ≤ ds.length ∧ i = .int .i64 k ∧ Below w.heap.size w wr) (fun i _ => ds.length - (intOf i).toNat)
  case atStart => exact ⟨0, Nat.zero_le _, rfl, b0 _⟩
  case round =>
    obtain ⟨k, hk, rfl, hbw⟩ := hrel
    by_cases hlt : k < ds.length
    · have hlt' : k < es.length := by rw [← Hlen.out]; exact hlt
      obtain ⟨b, off, hD, hbb, hcell⟩ := ha.at_ hlt
      obtain ⟨b', off', hD', hbb', hcell'⟩ := hb.at_ hlt'
      subst hD
      subst hD'
      have HX := Lib.hid (HXS.out k hlt hlt')
      have k1 := (hbw.cell (p := ⟨b, off + k, none⟩) hbb).trans (hcell k hlt)
      have k2 := (hbw.cell (p := ⟨b', off' + k, none⟩) hbb').trans (hcell' k hlt')
      have r1 := ((ha.below hbw).deck_at hlt).more hbw.size
      have r2 := ((hb.below hbw).deck_at hlt').more hbw.size
      have hlc := dtot_at ds k hlt
      have l1 := fun x : Later wr => lat_cell x k1
      have l2 := fun x : Later wr => lat_cell x k2
      have i1 : (k : Int) < (es.length : Int) := by omega
      clear hcell hcell' ha hb
      go_wp2_with fail
      refine wp_region_later (by kernel_rfl) (by kernel_rfl) ?_
      repeat (go_big_quiet_step ((go_at_call 17; exact lat_call (eqCardS_same _ _ _ _ ds[k].hs es[k].hs _ (r1.up (Later.below _)) (r2.up (Later.below _)) HX.out (by omega)))))
      refine wpQuiet_nil ?_
      intro w1 hb1
      go_wp2
      go_roundw
      case rel => exact ⟨k + 1, by omega, by go_num, bs hbw hb1⟩
      case measure => simp [intOf]; omega
    · go_wp2
      go_ret
      exact ⟨rfl, hbw⟩

set_option maxHeartbeats 1000000 in
theorem markCardSS_any (D : Option Addr) (c lo hi : Nat) (ds : List Dk) (k0 : Int) (w : World) (ho : ObDD w lo hi 29 52 2 D c ds) (hl : ds.length + dtot ds ≤ 1048576) (h0 : 0 ≤ k0) (h1 : k0 ≤ 274877906944) :
    Calls Try.prog 19 #[.slice D ds.length c, .int .i64 k0] w fun e w' => e = .returned (.int .i64 (k0 + (dcol ds : Nat))) ∧
      ObDD w' lo hi 29 52 2 D c (markDD k0 ds) ∧ Chg lo hi w w' := by
  go_enter Try.func19, Try.ntmps19
  go_wp2
  go_loopw [1, 5] (fun q i wr => ∃ k : Nat, k ≤ ds.length ∧ i = .int .i64 k ∧ q = .int .i64 (k0 + (dcol (ds.take k) : Nat)) ∧ ObDD wr lo hi 29 52 2 D c (markToD k0 k ds) ∧ Chg lo hi w wr) (fun _ i _ => ds.length - (intOf i).toNat)
  case atStart => exact ⟨0, Nat.zero_le _, rfl, by simp [dcol], by rw [markToD_zero]; exact ho, Chg.refl _ _ _⟩
  case round =>
    obtain ⟨k, hk, rfl, rfl, hob, hch⟩ := hrel
    by_cases hlt : k < ds.length
    · have hlt' : k < (markToD k0 k ds).length := by rw [markToD_length]; exact hlt
      have hat := markToD_at k0 k ds hlt
      obtain ⟨b, off, hD, hbb, hcell⟩ := hob.rd.at_ hlt'
      subst hD
      have k1 := hcell k hlt'
      rw [hat] at k1
      have hcb := hob.deck _ (List.getElem_mem hlt')
      rw [hat] at hcb
      have ht := dcol_take_succ ds k hlt
      have hle := dcol_take_le ds (k + 1)
      have hle2 := dcol_le ds
      have hlc := dtot_at ds k hlt
      have hmk : ∀ w' : World, ObD w' ds[k].lo ds[k].hi 52 2 ds[k].a ds[k].c (markD (k0 + (dcol (ds.take k) : Int)) ds[k].hs) → Chg ds[k].lo ds[k].hi wr w' →
          ObDD w' lo hi 29 52 2 (some ⟨b, off, none⟩) c (markToD k0 (k + 1) ds) ∧ Chg lo hi w w' := by
        intro w' h2 h3
        refine ⟨?_, hch.trans (h3.mono hcb.2.1 hcb.2.2)⟩
        have := hob.mark hlt' (gs := markD (k0 + (dcol (ds.take k) : Int)) ds[k].hs) (by rw [markD_length, hat]) (by rw [hat]; exact h2) (by rw [hat]; exact h3)
        rw [hat, markToD_succ _ _ _ hlt] at this
        exact this
      have HT := Lib.hid ht
      have HM := Lib.hid hmk
      have HCB := Lib.hid hcb.1
      clear hcell hmk hob hat ho hcb
      go_wp2_with fail
      refine (markCardS_any _ _ _ _ ds[k].hs _ _ HCB.out (by omega) (by omega) (by omega)).mono ?_; rintro e w1 ⟨rfl, ho1, hg1⟩
      have HF := Lib.hid (HM.out w1 ho1 hg1)
      clear ht hle ho1 hg1
      go_wp2
      go_roundw
      case rel => exact ⟨k + 1, by omega, by go_num, by rw [HT.out]; go_num, HF.out.1, HF.out.2⟩
      case measure => simp [intOf]; omega
    · obtain rfl : k = ds.length := by omega
      have HT := Lib.hid (show ds.take ds.length = ds from List.take_length)
      have HM := Lib.hid (markToD_all k0 ds)
      go_wp2
      go_ret
      rw [HM.out] at hob
      exact ⟨ret_int (by rw [HT.out]), hob, hch⟩

set_option maxHeartbeats 1000000 in
theorem heldCardSS_any (D : Option Addr) (c : Nat) (ds : List Dk) (k0 : Int) (w : World) (ha : RdDD w w.heap.size D (markDD k0 ds)) (hl : ds.length + dtot ds ≤ 1048576) (h0 : 0 ≤ k0) (h1 : k0 ≤ 274877906944) :
    Calls Try.prog 20 #[.slice D ds.length c, .int .i64 k0] w fun e w' => e = .returned (.int .i64 (k0 + (dcol ds : Nat))) ∧ Below w.heap.size w w' := by
  go_enter Try.func20, Try.ntmps20
  go_wp2
  go_loopw [1, 5] (fun q i wr => ∃ k : Nat, k ≤ ds.length ∧ i = .int .i64 k ∧ q = .int .i64 (k0 + (dcol (ds.take k) : Nat)) ∧ Below w.heap.size w wr) (fun _ i _ => ds.length - (intOf i).toNat)
  case atStart => exact ⟨0, Nat.zero_le _, rfl, by simp [dcol], b0 _⟩
  case round =>
    obtain ⟨k, hk, rfl, rfl, hbw⟩ := hrel
    by_cases hlt : k < ds.length
    · have hlt' : k < (markDD k0 ds).length := by rw [markDD_length]; exact hlt
      have hat := markDD_get k0 ds k hlt
      obtain ⟨b, off, hD, hbb, hcell⟩ := ha.at_ hlt'
      subst hD
      have k1 := (hbw.cell (p := ⟨b, off + k, none⟩) hbb).trans (hcell k hlt')
      have r1 := ((ha.below hbw).deck_at hlt').more hbw.size
      rw [hat] at k1 r1
      simp only [markD_length] at k1 r1
      have ht := dcol_take_succ ds k hlt
      have hle := dcol_take_le ds (k + 1)
      have hle2 := dcol_le ds
      have hlc := dtot_at ds k hlt
      have HT := Lib.hid ht
      clear hcell hat ha
      go_wp2_with fail
      refine (heldCardS_any _ _ ds[k].hs _ _ r1 (by omega) (by omega) (by omega)).mono ?_; rintro e w1 ⟨rfl, hb1⟩
      have h5 : ¬ (k0 + (dcol (ds.take k) : Int) + (tot ds[k].hs : Int) < 0) := by omega
      clear ht hle
      go_wp2
      go_roundw
      case rel => exact ⟨k + 1, by omega, by go_num, by rw [HT.out]; go_num, bs hbw hb1⟩
      case measure => simp [intOf]; omega
    · obtain rfl : k = ds.length := by omega
      have HT := Lib.hid (show ds.take ds.length = ds from List.take_length)
      go_wp2
      go_ret
      exact ⟨ret_int (by rw [HT.out]), hbw⟩
end Go.Proofs.Ytkmclaijhkaimaa
