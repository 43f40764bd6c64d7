/- The cards of pockets behind each other; in the program and in the reference. -/
import Derived.Test.YtmfoaggohlfflaaGreatDoorDecks
import Derived.Test.YtmfoaggohlfflaaGreatDoorDecks2
namespace Go.Proofs.YtmfoaggohlfflaaGreatDoor
open Go.RowKit

theorem info_cardG : (Tryz.prog.info? 41).map (fun i => (i.zero, i.size, i.bytes)) = some (some (.agg #[.slice none 0 0]), 1, 24) := by kernel_rfl
/-- The pockets in the order in which they are gathered. -/
def ordN (m : Int) : List Nat := if m = 2 then [12, 11, 10, 0, 1] else [12, 0, 1, 2, 3, 4, 5, 6, 7, 8, 9]
def ordI (m : Int) : List Int := (ordN m).map fun (k : Nat) => (k : Int)
theorem ordI_length (m : Int) : (ordI m).length = (ordN m).length := by simp [ordI]
theorem ordN_len (m : Int) : (ordN m).length ≤ 11 := by unfold ordN; split <;> simp
theorem ordN_lt (m : Int) (k : Nat) (h : k < (ordN m).length) : (ordN m)[k] < 13 := by
  have : ∀ j ∈ ordN m, j < 13 := by
    unfold ordN
    split <;> decide
  exact this _ (List.getElem_mem h)
theorem ordI_at (m : Int) (k : Nat) (h : k < (ordN m).length) : (ints (ordI m))[k]? = some (.int .i64 ((ordN m)[k] : Int)) := by simp [ints, ordI, h]
def gathTo (P : List (List (List Int))) (m : Int) (k : Nat) : List (List Int) := ((ordN m).take k).flatMap fun j => P.getD j []
def gathL (P : List (List (List Int))) (m : Int) : List (List Int) := (ordN m).flatMap fun j => P.getD j []
theorem gathTo_zero (P : List (List (List Int))) (m : Int) : gathTo P m 0 = [] := by simp [gathTo]
theorem gathTo_succ (P : List (List (List Int))) (m : Int) (k : Nat) (h : k < (ordN m).length) : gathTo P m (k + 1) = gathTo P m k ++ P.getD (ordN m)[k] [] := by
  unfold gathTo
  rw [List.take_succ_eq_append_getElem h, List.flatMap_append]
  simp
theorem gathTo_all (P : List (List (List Int))) (m : Int) : gathTo P m (ordN m).length = gathL P m := by simp [gathTo, gathL]
theorem decks_getD (ds : List Dk) (j : Nat) (h : j < ds.length) : (decks ds).getD j [] = cards ds[j].hs := by simp [decks, h]

/-- A deck of the call's own, and behind it another one. -/
theorem ObD.join {w w' : World} {lo hi : Nat} {eD eC : TypeId} {D : Option Addr} {c : Nat} {hs : List Hd} (h : ObD w lo hi eD eC D c hs) (hne : eC ≠ eD) {l1 h1 : Nat} {B : Option Addr} {d : Nat} {gs : List Hd} (k : ObD w l1 h1 eD eC B d gs) (hl : hi ≤ l1) (hll : lo ≤ l1) {D' : Option Addr} {c' : Nat}
    (hrow : w'.ownsRow lo eD 1 (.slice D' (hs.length + gs.length) c') (hs.length + gs.length) (heads hs ++ heads gs)) (hg : w.grownBy w' (Value.slice D hs.length c).ownBlock) (hhi : hi ≤ w.heap.size) (hh1 : h1 ≤ w.heap.size) :
    ObD w' lo w'.heap.size eD eC D' c' (hs ++ gs) := by
  have hz := hg.size
  refine ⟨?_, ?_, ?_⟩
  · rw [heads_append, List.length_append]
    exact Ob.of hrow
  · intro y hy
    rcases List.mem_append.1 hy with hy | hy
    · exact ((h.card y hy).kept hg (own_ne (h.card y hy).1 h.row.1 hne)).mono (Nat.le_refl _) (by omega)
    · exact ((k.card y hy).kept hg (own_ne (k.card y hy).1 h.row.1 hne)).mono hll (by omega)
  · refine List.pairwise_append.2 ⟨h.apart, k.apart, ?_⟩
    intro x hx y hy g e1 e2
    have h2 := ob_form (h.card x hx) e1
    have h3 := ob_form (k.card y hy) e2
    simp only at h2 h3
    omega

theorem gatherOrder_any (m : Int) (w : World) :
    Calls Tryz.prog 140 #[.int .i64 m] w fun e w' => ∃ A, e = .returned (.slice A (ordN m).length (ordN m).length) ∧ w'.ownsRow w.heap.size 2 1 (.slice A (ordN m).length (ordN m).length) (ordN m).length (ints (ordI m)) ∧ Below w.heap.size w w' := by
  by_cases h : m = 2
  · have HL := Lib.hid (show ordN m = [12, 11, 10, 0, 1] by unfold ordN; rw [if_pos h])
    have e1 := beq_t h
    clear h
    go_enter Tryz.func140, Tryz.ntmps140
    go_wp2
    go_ret
    refine ⟨some ⟨w.heap.size, 0, none⟩, by rw [HL.out]; rfl, ?_, ba (b0 _) _⟩
    unfold ordI
    rw [HL.out]
    exact own_lit (size := 1) w #[.int .i64 12, .int .i64 11, .int .i64 10, .int .i64 0, .int .i64 1] 5 rfl (Nat.le_refl _) (by omega) rfl
  · have HL := Lib.hid (show ordN m = [12, 0, 1, 2, 3, 4, 5, 6, 7, 8, 9] by unfold ordN; rw [if_neg h])
    have e1 := beq_f h
    clear h
    go_enter Tryz.func140, Tryz.ntmps140
    go_wp2
    go_ret
    refine ⟨some ⟨w.heap.size, 0, none⟩, by rw [HL.out]; rfl, ?_, ba (b0 _) _⟩
    unfold ordI
    rw [HL.out]
    exact own_lit (size := 1) w #[.int .i64 12, .int .i64 0, .int .i64 1, .int .i64 2, .int .i64 3, .int .i64 4, .int .i64 5, .int .i64 6, .int .i64 7, .int .i64 8, .int .i64 9] 11 rfl (Nat.le_refl _) (by omega) rfl
/-- Behind k pockets. -/
def GaR (ds : List Dk) (m : Int) (A : Option Addr) (w wr : World) (o i : Value) : Prop := ∃ (k n : Nat) (G : Option Addr) (cg : Nat) (gs : List Hd), k ≤ (ordN m).length ∧ i = .int .i64 k ∧ gs.length = n ∧ n ≤ k * 1048576 ∧ o = .slice G n cg ∧ cards gs = gathTo (decks ds) m k ∧
  ObD wr w.heap.size wr.heap.size 41 2 G cg gs ∧ Ob wr w.heap.size wr.heap.size 2 1 (.slice A (ordN m).length (ordN m).length) (ordN m).length (ints (ordI m)) ∧ Below w.heap.size w wr

set_option maxRecDepth 20000 in
set_option maxHeartbeats 4000000 in
theorem gathered_any (E : Option Addr) (ce : Nat) (ds : List Dk) (m : Int) (w : World) (ha : RdDD w w.heap.size E ds) (hn : ds.length = 13) (hl : ds.length + dtot ds ≤ 1048576) :
    Calls Tryz.prog 147 #[.slice E ds.length ce, .int .i64 m] w fun e w' => ∃ D c gs, e = .returned (.slice D gs.length c) ∧ cards gs = gathL (decks ds) m ∧ ObD w' w.heap.size w'.heap.size 41 2 D c gs ∧ Below w.heap.size w w' := by
  obtain ⟨j0, hj, hj0, hj1, hj2⟩ := info_parts info_cardG
  have HOL := Lib.hid (ordN_len m)
  have hn13 : 13 ≤ ds.length := by omega
  clear hn
  go_enter Tryz.func147, Tryz.ntmps147
  go_wp2_with fail
  refine (gatherOrder_any _ _).mono ?_; rintro e w1 ⟨A, rfl, ho1, hb1⟩
  have T1 : Below w.heap.size w w1 := bs (ba (b0 w) (.cells #[] 41)) hb1
  have hrow0 : w1.ownsRow w.heap.size 41 1 (.slice (some ⟨w.heap.size, 0, none⟩) 0 0) 0 [] := own_bs (own_lit w #[] 0 rfl (Nat.le_refl _) (by omega) rfl) hb1
  have ho2 : Ob w1 w.heap.size w1.heap.size 2 1 (.slice A (ordN m).length (ordN m).length) (ordN m).length (ints (ordI m)) := (Ob.of ho1).mono (by simp) (Nat.le_refl _)
  clear hb1 ho1
  go_wp2
  go_loopw [5, 7, 12] (fun o _ i wr => GaR ds m A w wr o i) (fun _ _ i _ => (ordN m).length - (intOf i).toNat)
  case atStart => exact ⟨0, 0, _, _, [], Nat.zero_le _, rfl, rfl, Nat.zero_le _, rfl, (gathTo_zero _ _).symm, ObD.empty (Ob.of hrow0), ho2, T1⟩
  case round =>
    obtain ⟨wo, rfl⟩ : ∃ wo : World, wo = wr := ⟨_, rfl⟩
    obtain ⟨k, _, G, cg, gs, hk, rfl, rfl, hgl, rfl, hgc, hob, hoo, hbw⟩ := hrel
    have HGC := Lib.hid hgc
    have hol := HOL.out
    clear hgc
    by_cases hlt : k < (ordN m).length
    · have i1 : (k : Int) < ((ordN m).length : Int) := by omega
      obtain ⟨b1, o1, hA, _, hc1⟩ := hoo.rd.at_ hlt
      have HA := Lib.hid hA
      have c1 := hc1 k _ (ordI_at m k hlt)
      have HS := Lib.hid (gathTo_succ (decks ds) m k hlt)
      have hj13 := ordN_lt m k hlt
      obtain ⟨j, hjj⟩ : ∃ j, j = (ordN m)[k] := ⟨_, rfl⟩
      rw [← hjj] at c1 HS hj13
      have hjl : j < ds.length := by omega
      have i2 : (j : Int) < (ds.length : Int) := by omega
      have hra := ha.up hbw
      have rj := hra.deck_at hjl
      have hlj : ds[j].hs.length + tot ds[j].hs ≤ 1048576 := by have := dtot_at ds j hjl; omega
      obtain ⟨b2, o2, hE, _, hc2⟩ := hra.at_ hjl
      have c2 := hc2 j hjl
      have HD := Lib.hid (decks_getD ds j hjl)
      have hsz := hbw.size
      clear hc1 hc2 hjj hra
      subst hA
      subst hE
      go_wp2_with fail
      refine (newDeck_any _ _ ds[j].hs _ rj hlj).mono ?_; rintro e w5 ⟨D5, c5, gs5, rfl, hcc5, ho5, hb5⟩
      have hlen5 : gs5.length ≤ 1048576 := by have := (cards_same hcc5).1; omega
      have HC5 := Lib.hid hcc5
      have hobN := hob.bs hb5
      have hooN := hoo.bs hb5
      have hT5 := bs hbw hb5
      have hbase := hT5.size
      have hz5 := hb5.size
      clear hcc5 hob hoo hb5 hbw rj
      go_wp2_with (at_builtin; go_loud (refine wpList_aps rfl (.tmp 16) (.tmp 21) 24 rfl w.heap.size 41 j0 _ 1 24 Tryz.underlying24 hj hj0 hj1 hj2 rfl (by omega) _ gs.length _ (heads gs) w5 rfl hobN.row.1 _ _ gs5.length _ (heads gs5) rfl ho5.rd.row (heads_one gs5) (by omega) (by omega) hbase ?_; intro G6 cap w6 hown6 hb6 hg6))
      have HO := Lib.hid (hobN.join (by decide) ho5 (Nat.le_refl _) hsz hown6 hg6 hz5 (Nat.le_refl _))
      have HOO := Lib.hid ((hooN.kept hg6 (own_ne hooN.1 hobN.row.1 (by decide))).mono (Nat.le_refl _) (show wo.heap.size ≤ w6.heap.size from Nat.le_trans hz5 hg6.size))
      have HB6 := Lib.hid (hT5.trans hb6)
      clear hown6 hb6 hg6 hobN hooN hT5 ho5
      go_wp2
      go_roundw
      case rel =>
        have P : GaR ds m (some ⟨b1, o1, none⟩) w w6 (.slice G6 (gs.length + gs5.length) cap) (.int .i64 ((k : Int) + 1)) := ⟨k + 1, gs.length + gs5.length, G6, cap, gs ++ gs5, by omega, by go_num, by rw [List.length_append], by omega, rfl, by rw [HS.out, HD.out, cards_append, HGC.out, HC5.out], HO.out, HOO.out, HB6.out⟩
        first | exact P | exact ⟨_, _, P, rfl, rfl⟩ | exact ⟨_, _, _, P, rfl, rfl, rfl⟩
      case measure => simp [intOf]; omega
    · obtain rfl : k = (ordN m).length := by omega
      have HK := Lib.hid (show cards gs = gathL (decks ds) m by rw [HGC.out, gathTo_all])
      go_wp2
      go_ret
      exact ⟨G, cg, gs, rfl, HK.out, hob, hbw⟩

end Go.Proofs.YtmfoaggohlfflaaGreatDoor
