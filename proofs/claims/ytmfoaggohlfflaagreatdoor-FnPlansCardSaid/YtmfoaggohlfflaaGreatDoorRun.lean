/- RunPass, RunPasses; in the program and in the reference. -/
import Derived.Test.YtmfoaggohlfflaaGreatDoorRunLaw
import Derived.Test.YtmfoaggohlfflaaGreatDoorPasses
import Derived.Deep.RegionHeld3
namespace Go.Proofs.YtmfoaggohlfflaaGreatDoor
open Go.RowKit

theorem sort13 {L : List (List Int)} {i : Nat} {b : Int} {ds : List Dk} (h : decks ds = sortDD L i b) : ds.length = 13 := by
  have := congrArg List.length h
  rwa [decks_length, show (sortDD L i b).length = 13 by simp [sortDD]] at this
theorem sort_bound {L : List (List Int)} {i : Nat} {b : Int} {ds : List Dk} (h : decks ds = sortDD L i b) (h1 : deckOk L = true) (h2 : passOk (deckW L : Int) ((i : Int), b) = true) : ds.length + dtot ds ≤ 1048576 :=
  sortRes_bound L (i : Int) b (h.trans (sortRes_0 (code7_0 h1 h2)).symm)
theorem runP_nat (L : List (List Int)) (i : Nat) (b : Int) : gathL (sortDD L i b) b = runP L ((i : Int), b) := rfl
theorem deck_bound {gs : List Hd} (h : deckOk (cards gs) = true) : gs.length + tot gs ≤ 840 := by
  have := deckOk_sum h
  rwa [cards_length, ← tot_of_cards (gs := gs) rfl] at this
/-- Behind k passes. -/
def RuR (L : List (List Int)) (ps : List (Int × Int)) (w wr : World) (o i : Value) : Prop := ∃ (k : Nat) (G : Option Addr) (cg : Nat) (gs : List Hd), k ≤ ps.length ∧ i = .int .i64 k ∧ o = .slice G gs.length cg ∧ cards gs = runL L (ps.take k) ∧
  ObD wr w.heap.size wr.heap.size 41 2 G cg gs ∧ Below w.heap.size w wr
theorem run_step {L : List (List Int)} {ps : List (Int × Int)} (hok : deckOk L = true) (hps : passesOk (deckW L : Int) ps = true) {k : Nat} (hk : k < ps.length) :
    ∃ (i : Nat), ps[k].1 = (i : Int) ∧ deckOk (runL L (ps.take k)) = true ∧ i < deckW (runL L (ps.take k)) ∧ passOk (deckW (runL L (ps.take k)) : Int) ((i : Int), ps[k].2) = true ∧
      runL L (ps.take (k + 1)) = runP (runL L (ps.take k)) ((i : Int), ps[k].2) ∧ (ps[k].2 = 1 ∨ ps[k].2 = 2) := by
  have hp := passesOk_at hps hk
  obtain ⟨i, hi1, hi2⟩ := col_cards hp
  have hperm := runL_perm L (cols := (deckW L : Int)) (ps := ps.take k) (fun p hp => by
    obtain ⟨j, hj, rfl⟩ := List.mem_iff_getElem.1 hp
    rw [List.getElem_take]
    exact passesOk_at hps _)
  have hw := deckW_perm hperm hok
  have he : ps[k] = ((i : Int), ps[k].2) := by rw [← hi1]
  refine ⟨i, hi1, deckOk_perm hperm hok, by rw [hw]; exact hi2, by rw [hw, ← he]; exact hp, ?_, passOk_mode hp⟩
  rw [runL_succ _ _ _ hk, ← he]

set_option maxRecDepth 20000 in
set_option maxHeartbeats 4000000 in
theorem runPasses_any (D : Option Addr) (c : Nat) (hs : List Hd) (A : Option Addr) (cp : Nat) (ps : List (Int × Int)) (w : World) (ha : RdD w w.heap.size D hs) (hok : deckOk (cards hs) = true) (hl : hs.length + tot hs ≤ 1048576)
    (hb : Rd w w.heap.size 2 A ps.length (prs ps)) (hlp : ps.length ≤ 1048576) (hps : passesOk (deckW (cards hs) : Int) ps = true) :
    Calls Tryz.prog 108 #[.slice D hs.length c, .slice A ps.length cp] w fun e w' => ∃ E ce gs, e = .returned (.slice E gs.length ce) ∧ cards gs = runL (cards hs) ps ∧ ObD w' w.heap.size w'.heap.size 41 2 E ce gs ∧ Below w.heap.size w w' := by
  have HOK := Lib.hid hok
  have HPS := Lib.hid hps
  clear hok hps
  go_enter Tryz.func108, Tryz.ntmps108
  go_wp2_with fail
  refine (newDeck_any _ _ hs _ ha hl).mono ?_; rintro e w1 ⟨D1, c1, gs1, rfl, hcc1, ho1, hb1⟩
  have HC1 := Lib.hid hcc1
  clear hcc1
  go_wp2
  go_loopw [5, 7, 12] (fun o _ i wr => RuR (cards hs) ps w wr o i) (fun _ _ i _ => ps.length - (intOf i).toNat)
  case atStart => exact ⟨0, D1, c1, gs1, Nat.zero_le _, rfl, rfl, by rw [HC1.out]; rfl, ho1, hb1⟩
  case round =>
    obtain ⟨wo, rfl⟩ : ∃ wo : World, wo = wr := ⟨_, rfl⟩
    obtain ⟨k, G, cg, gs, hk, rfl, rfl, hgc, hob, hbw⟩ := hrel
    have HGC := Lib.hid hgc
    clear hgc
    by_cases hlt : k < ps.length
    · obtain ⟨b1, o1, rfl, hbb, hc⟩ := hb.at_ hlt
      have d1 := cell_later hbw (hc _ _ (prs_fst ps k hlt))
      have d2 := cell_later hbw (hc _ _ (prs_snd ps k hlt))
      rw [← Nat.add_assoc] at d2
      obtain ⟨i, hi, hgok, hgi, hgp, hnext, hmode⟩ := run_step HOK.out HPS.out hlt
      rw [← HGC.out] at hgok hgi hgp hnext
      obtain ⟨b, hbq⟩ : ∃ b, b = ps[k].2 := ⟨_, rfl⟩
      rw [← hbq] at d2 hgp hnext hmode
      rw [hi] at d1
      have HGO := Lib.hid hgok
      have HGI := Lib.hid hgi
      have HGP := Lib.hid hgp
      have HNX := Lib.hid hnext
      have hgl := deck_bound hgok
      have i1 : (k : Int) < (ps.length : Int) := by omega
      have k0 : World.cell? (wo.alloc (.cells #[.int .i64 (i : Int), .int .i64 b] 76)) ⟨wo.heap.size, 0, none⟩ = some (.int .i64 (i : Int)) := cell_new rfl rfl
      have k1 : World.cell? (wo.alloc (.cells #[.int .i64 (i : Int), .int .i64 b] 76)) ⟨wo.heap.size, 1, none⟩ = some (.int .i64 b) := cell_new rfl rfl
      have rg := hob.rd.a1 (.cells #[.int .i64 (i : Int), .int .i64 b] 76)
      have TB : Below w.heap.size w (wo.alloc (.cells #[.int .i64 (i : Int), .int .i64 b] 76)) := ba hbw _
      have hz := hbw.size
      clear hi hgok hgi hgp hnext hbq hc hmode hbb hob hbw
      go_wp2_with fail
      obtain ⟨W, hW⟩ : ∃ W, W = wo.alloc (.cells #[.int .i64 (i : Int), .int .i64 b] 76) := ⟨_, rfl⟩
      rw [← hW] at k0 k1 rg TB ⊢
      clear hW
      go_region_held3 (fun w' => w'.cell? ⟨wo.heap.size, 0, none⟩ = some (.int .i64 (i : Int)) ∧ w'.cell? ⟨wo.heap.size, 1, none⟩ = some (.int .i64 b)) (first | exact ⟨k0, k1⟩ | go_keep)
        (first
          | (go_at_call 148; refine (sortPass_any _ _ gs i b _ ?_ HGO.out HGI.out ?_).mono ?_; (first | exact rg | exact rg.drew); (omega); rintro e w4 ⟨E, ce, ds, rfl, hdd, hoo, hb4⟩; have hb4 : Below W.heap.size W w4 := ⟨hb4.os, hb4.tape, hb4.output, hb4.size, hb4.block⟩; replace k0 := cell_later hb4 k0; replace k1 := cell_later hb4 k1; have T4 := bs TB hb4; have HDD := Lib.hid hdd; have HD13 := Lib.hid (sort13 hdd); have hdb := sort_bound hdd HGO.out HGP.out; clear hdd hb4 TB)
          | (go_at_call 147; refine (gathered_any _ _ ds b _ ?_ HD13.out hdb).mono ?_; (first | exact hoo.rd | exact hoo.rd.drew); rintro e w5 ⟨D5, c5, gs5, rfl, hcc5, ho5, hb5⟩; have hb5 : Below w4.heap.size w4 w5 := ⟨hb5.os, hb5.tape, hb5.output, hb5.size, hb5.block⟩; have ho5 : ObD w5 w4.heap.size _ _ _ _ _ _ := ho5; replace k0 := cell_later hb5 k0; replace k1 := cell_later hb5 k1; have T5 := bs T4 hb5; have HC5 := Lib.hid hcc5; have hz4 := T4.size; clear hcc5 hb5 T4))
      have HO5 := Lib.hid (ho5.mono hz4 (Nat.le_refl w5.heap.size))
      have HR := Lib.hid (show cards gs5 = runL (cards hs) (ps.take (k + 1)) by rw [HNX.out, HC5.out, HDD.out]; rfl)
      clear ho5 hoo hdb
      go_wp2
      go_roundw
      case rel =>
        have P : RuR (cards hs) ps w w5 (.slice D5 gs5.length c5) (.int .i64 ((k : Int) + 1)) := ⟨k + 1, D5, c5, gs5, by omega, by go_num, rfl, HR.out, HO5.out, T5⟩
        first | exact P | exact ⟨_, _, P, rfl, rfl⟩ | exact ⟨_, _, _, P, rfl, rfl, rfl⟩
      case measure => simp [intOf]; omega
    · obtain rfl : k = ps.length := by omega
      have HK := Lib.hid (show cards gs = runL (cards hs) ps by rw [HGC.out, List.take_of_length_le (Nat.le_refl _)])
      go_wp2
      go_ret
      exact ⟨G, cg, gs, rfl, HK.out, hob, hbw⟩

end Go.Proofs.YtmfoaggohlfflaaGreatDoor
