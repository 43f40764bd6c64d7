/- IsIdlePass; in the program and in the reference. -/
import Derived.Test.YtmfoaggohlfflaaGreatDoorFuncsCard
import Derived.Test.YtmfoaggohlfflaaGreatDoorPocketOf
namespace Go.Proofs.YtmfoaggohlfflaaGreatDoor
open Go.RowKit

def pkt (x : List Int) (i : Nat) (b : Int) : Int := pocketI (x.getD i 0) b
def idleB (L : List (List Int)) (i : Nat) (b : Int) : Bool := !(L.any fun x => pkt x i b != pkt (L.headD []) i b)
def code7 (L : List (List Int)) (a b : Int) : Int := if deckOk L = true then (if passOk (deckW L : Int) (a, b) = true then 0 else 2) else 1
theorem code7_1 {L : List (List Int)} {a b : Int} (h : deckOk L = false) : code7 L a b = 1 := by unfold code7; rw [if_neg (by simp [h])]
theorem code7_2 {L : List (List Int)} {a b : Int} (h : deckOk L = true) (h2 : passOk (deckW L : Int) (a, b) = false) : code7 L a b = 2 := by unfold code7; rw [if_pos h, if_neg (by simp [h2])]
theorem code7_0 {L : List (List Int)} {a b : Int} (h : deckOk L = true) (h2 : passOk (deckW L : Int) (a, b) = true) : code7 L a b = 0 := by unfold code7; rw [if_pos h, if_pos h2]
theorem code7_zero {L : List (List Int)} {a b : Int} (h : code7 L a b = 0) : deckOk L = true ∧ passOk (deckW L : Int) (a, b) = true := by
  unfold code7 at h
  split at h
  · rename_i h1
    split at h
    · rename_i h2
      exact ⟨h1, h2⟩
    · simp at h
  · simp at h
theorem first_code {L : List (List Int)} {a b : Int} {q : Bool} (h : deckOk L = true) (h2 : passOk (deckW L : Int) (a, b) = q) : code7 L a b = if q = true then 0 else 2 := by unfold code7; rw [if_pos h, h2]
def idleRes (L : List (List Int)) (a b : Int) : Bool := if code7 L a b = 0 then idleB L a.toNat b else false
theorem ret_bi {p q : Bool} {a b : Int} (h : p = q) (k : a = b) : Ending.returned (.tuple #[.bool p, .int .i64 a]) = .returned (.tuple #[.bool q, .int .i64 b]) := by rw [h, k]
theorem pkt_hd {x : List Int} {i : Nat} (h : i < x.length) (b : Int) : pkt x i b = pocketI x[i] b := by unfold pkt; simp [List.getD, List.getElem?_eq_getElem h]
theorem head_cards {hs : List Hd} (h : 0 < hs.length) : (cards hs).headD [] = hs[0].xs := by
  cases hs with
  | nil => simp at h
  | cons x hs => rfl
theorem deck_col {hs : List Hd} (h : deckOk (cards hs) = true) {i : Nat} (hi : i < deckW (cards hs)) {k : Nat} (hk : k < hs.length) : i < hs[k].xs.length := by
  have h1 := deckOk_hd h hk
  rw [deckW_pos (by omega)] at hi
  have h2 := deckOk_hd h (k := 0) (by omega)
  omega

set_option maxHeartbeats 2000000 in
theorem isIdle1_any (bp bd : Nat) (D : Option Addr) (c : Nat) (hs : List Hd) (k i : Nat) (b : Int) (w : World) (hp0 : w.cell? ⟨bp, 0, none⟩ = some (.int .i64 (i : Int))) (hp1 : w.cell? ⟨bp, 1, none⟩ = some (.int .i64 b)) (hd : w.cell? ⟨bd, 0, none⟩ = some (.slice D hs.length c))
    (ha : RdD w w.heap.size D hs) (hok : deckOk (cards hs) = true) (hi : i < deckW (cards hs)) (hk : k < hs.length) (hl : hs.length ≤ 1048576) :
    Calls Tryz.prog 103 #[.agg #[.slice hs[k].a hs[k].xs.length hs[k].c], .pointer (some ⟨bp, 0, none⟩), .pointer (some ⟨bd, 0, none⟩)] w fun e w' => e = .returned (.bool (pkt hs[k].xs i b != pkt ((cards hs).headD []) i b)) ∧ Below w.heap.size w w' := by
  have h0l : 0 < hs.length := by omega
  have hi0 := deck_col hok hi h0l
  have hik := deck_col hok hi hk
  have HP := Lib.hid (show (pkt hs[k].xs i b != pkt ((cards hs).headD []) i b) = (pocketI hs[k].xs[i] b != pocketI hs[0].xs[i] b) by rw [head_cards h0l, pkt_hd hik, pkt_hd hi0])
  have g := cardOk_hole (deckOk_hd hok hk).1 hik
  have g0 := cardOk_hole (deckOk_hd hok h0l).1 hi0
  obtain ⟨u, hu⟩ : ∃ u, u = hs[k].xs[i] := ⟨_, rfl⟩
  obtain ⟨u0, hu0⟩ : ∃ u0, u0 = hs[0].xs[i] := ⟨_, rfl⟩
  rw [← hu, ← hu0] at HP
  rw [← hu] at g
  rw [← hu0] at g0
  have m1 := (cardOk_len (deckOk_hd hok hk).1).2
  have m2 := (cardOk_len (deckOk_hd hok h0l).1).2
  obtain ⟨bk, off, hD, _, hcell⟩ := ha.at_ h0l
  have c0 := hcell 0 h0l
  rw [Nat.add_zero] at c0
  obtain ⟨b1, o1, ha1, _, hc1⟩ := (ha.card_at hk).at_ hik
  have c1 := hc1 i _ (ints_get _ i hik)
  rw [← hu] at c1
  obtain ⟨b2, o2, ha2, _, hc2⟩ := (ha.card_at h0l).at_ hi0
  have c2 := hc2 i _ (ints_get _ i hi0)
  rw [← hu0] at c2
  subst hD
  rw [ha1]
  rw [ha2] at c0
  have i0 : (0 : Int) < (hs.length : Int) := by omega
  have i1 : (i : Int) < (hs[k].xs.length : Int) := by omega
  have i2 : (i : Int) < (hs[0].xs.length : Int) := by omega
  have bx : Obj := .cells #[.slice (some ⟨b1, o1, none⟩) hs[k].xs.length hs[k].c] 41
  have l0 := fun x : Later (w.alloc (.cells #[.slice (some ⟨b1, o1, none⟩) hs[k].xs.length hs[k].c] 41)) => lat_cell x (cell_alloc c0 _)
  have l1 := fun x : Later (w.alloc (.cells #[.slice (some ⟨b1, o1, none⟩) hs[k].xs.length hs[k].c] 41)) => lat_cell x (cell_alloc c1 _)
  have l2 := fun x : Later (w.alloc (.cells #[.slice (some ⟨b1, o1, none⟩) hs[k].xs.length hs[k].c] 41)) => lat_cell x (cell_alloc c2 _)
  have l3 := fun x : Later (w.alloc (.cells #[.slice (some ⟨b1, o1, none⟩) hs[k].xs.length hs[k].c] 41)) => lat_cell x (cell_alloc hp0 _)
  have l4 := fun x : Later (w.alloc (.cells #[.slice (some ⟨b1, o1, none⟩) hs[k].xs.length hs[k].c] 41)) => lat_cell x (cell_alloc hp1 _)
  have l5 := fun x : Later (w.alloc (.cells #[.slice (some ⟨b1, o1, none⟩) hs[k].xs.length hs[k].c] 41)) => lat_cell x (cell_alloc hd _)
  have l6 := fun x : Later (w.alloc (.cells #[.slice (some ⟨b1, o1, none⟩) hs[k].xs.length hs[k].c] 41)) => lat_cell x (b := w.heap.size) (o := 0) (cell_new rfl rfl)
  clear hcell hc1 hc2 ha ha1 ha2 hok c0 c1 c2 hp0 hp1 hd bx hu hu0
  go_enter Tryz.func103, Tryz.ntmps103
  go_wp2_with fail
  refine wp_region_later (by kernel_rfl) (by kernel_rfl) ?_
  repeat (go_big_quiet_step ((first | (go_at_call_of 104 (Value.int IntKind.i64 u); exact lat_pure (pocketOf_any u b g.1 g.2 _)) | (go_at_call_of 104 (Value.int IntKind.i64 u0); exact lat_pure (pocketOf_any u0 b g0.1 g0.2 _)))))
  refine wpQuiet_nil ?_
  intro w1 hb1
  go_wp2
  go_ret
  exact ⟨ret_bool HP.out.symm, bs (ba (b0 _) _) hb1⟩

set_option maxHeartbeats 1000000 in
theorem isIdle_any (D : Option Addr) (c : Nat) (hs : List Hd) (i : Nat) (b : Int) (w : World) (ha : RdD w w.heap.size D hs) (hok : deckOk (cards hs) = true) (hi : i < deckW (cards hs)) (hl : hs.length ≤ 1048576) :
    Calls Tryz.prog 46 #[.slice D hs.length c, .agg #[.int .i64 (i : Int), .int .i64 b]] w fun e w' => e = .returned (.bool (idleB (cards hs) i b)) ∧ Below w.heap.size w w' := by
  have ha2 := (ha.a1 (.cells #[.slice D hs.length c] 24)).a1 (.cells #[.int .i64 (i : Int), .int .i64 b] 76)
  have c1 : World.cell? ((w.alloc (.cells #[.slice D hs.length c] 24)).alloc (.cells #[.int .i64 (i : Int), .int .i64 b] 76)) ⟨w.heap.size, 0, none⟩ = some (.slice D hs.length c) := cell_alloc (cell_new rfl rfl) _
  have c2 : World.cell? ((w.alloc (.cells #[.slice D hs.length c] 24)).alloc (.cells #[.int .i64 (i : Int), .int .i64 b] 76)) ⟨w.heap.size + 1, 0, none⟩ = some (.int .i64 (i : Int)) := cell_new (by simp) rfl
  have c3 : World.cell? ((w.alloc (.cells #[.slice D hs.length c] 24)).alloc (.cells #[.int .i64 (i : Int), .int .i64 b] 76)) ⟨w.heap.size + 1, 1, none⟩ = some (.int .i64 b) := cell_new (by simp) rfl
  have hcon := Lib.hid (ContainsFuncCard_any D c hs 103 #[.pointer (some ⟨w.heap.size + 1, 0, none⟩), .pointer (some ⟨w.heap.size, 0, none⟩)] (fun x => pkt x i b != pkt ((cards hs).headD []) i b) _ ha2 hl Tryz.call103
    (fun h hh w' hbk => by
      obtain ⟨k, hk, rfl⟩ := List.mem_iff_getElem.1 hh
      exact isIdle1_any _ _ D c hs k i b w' (cell_later hbk c2) (cell_later hbk c3) (cell_later hbk c1) (ha2.up hbk) hok hi hk hl))
  clear ha2 c1 c2 c3
  obtain ⟨q, hq⟩ : ∃ q, q = (cards hs).any (fun x => pkt x i b != pkt ((cards hs).headD []) i b) := ⟨_, rfl⟩
  rw [← hq] at hcon
  have HQ := Lib.hid (show idleB (cards hs) i b = !q by rw [hq]; rfl)
  clear hq
  go_enter Tryz.func46, Tryz.ntmps46
  go_wp2_with fail
  refine hcon.out.mono ?_; rintro e w1 ⟨rfl, hb1⟩
  go_wp2
  go_ret
  exact ⟨ret_bool HQ.out.symm, bs (ba (ba (b0 _) _) _) hb1⟩

theorem idle_bad {hs : List Hd} {i : Nat} {b : Int} {k : Nat} (hk : k < hs.length) (h : ¬ pkt hs[k].xs i b = pkt ((cards hs).headD []) i b) : idleB (cards hs) i b = false := by
  unfold idleB
  rw [show (cards hs).any (fun x => pkt x i b != pkt ((cards hs).headD []) i b) = true from List.any_eq_true.2 ⟨hs[k].xs, by simp only [cards]; exact List.mem_map_of_mem (List.getElem_mem hk), by simpa using h⟩]
  rfl
theorem zero_case (hs : List Hd) (i : Nat) (b : Int) : ∀ j (hj : j < hs.length), j < 1 → pkt hs[j].xs i b = pkt ((cards hs).headD []) i b := by
  intro j hj h
  obtain rfl : j = 0 := by omega
  rw [head_cards hj]
theorem idle_end {hs : List Hd} {i : Nat} {b : Int} (h : ∀ k (hk : k < hs.length), pkt hs[k].xs i b = pkt ((cards hs).headD []) i b) : idleB (cards hs) i b = true := by
  unfold idleB
  rw [show (cards hs).any (fun x => pkt x i b != pkt ((cards hs).headD []) i b) = false from by
    rw [List.any_eq_false]
    intro x hx
    simp only [cards, List.mem_map] at hx
    obtain ⟨y, hy, rfl⟩ := hx
    obtain ⟨k, hk, rfl⟩ := List.mem_iff_getElem.1 hy
    simpa using h k hk]
  rfl

end Go.Proofs.YtmfoaggohlfflaaGreatDoor
