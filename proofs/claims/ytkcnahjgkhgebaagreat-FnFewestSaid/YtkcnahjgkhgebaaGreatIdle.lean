/- IsIdlePass; in the program and in the reference. -/
import Derived.Test.YtkcnahjgkhgebaaGreatFuncsCard
import Derived.Test.YtkcnahjgkhgebaaGreatPocketOf
namespace Go.Proofs.YtkcnahjgkhgebaaGreat
open Go.RowKit

def pkt (x : List Int) (i : Nat) (b : Int) : Int := pocketI (x.getD i 0) b
def idleB (L : List (List Int)) (i : Nat) (b : Int) : Bool := !(L.any fun x => pkt x i b != pkt (L.headD []) i b)
def code7 (L : List (List Int)) (a b : Int) : Int := if deckOk L = true then (if passOk (deckW L : Int) (a, b) = true then 0 else 2) else 1
theorem code7_1 {L : List (List Int)} {a b : Int} (h : deckOk L = false) : code7 L a b = 1 := by unfold code7; rw [if_neg (by simp [h])]
theorem code7_2 {L : List (List Int)} {a b : Int} (h : deckOk L = true) (h2 : passOk (deckW L : Int) (a, b) = false) : code7 L a b = 2 := by unfold code7; rw [if_pos h, if_neg (by simp [h2])]
theorem code7_0 {L : List (List Int)} {a b : Int} (h : deckOk L = true) (h2 : passOk (deckW L : Int) (a, b) = true) : code7 L a b = 0 := by unfold code7; rw [if_pos h, if_pos h2]
theorem code7_zero {L : List (List Int)} {a b : Int} (h : code7 L a b = 0) : deckOk L = true ∧ passOk (deckW L : Int) (a, b) = true := by
  unfold code7 at h
  split at h
  · rename_i h1
    split at h
    · rename_i h2
      exact ⟨h1, h2⟩
    · simp at h
  · simp at h
theorem first_code {L : List (List Int)} {a b : Int} {q : Bool} (h : deckOk L = true) (h2 : passOk (deckW L : Int) (a, b) = q) : code7 L a b = if q = true then 0 else 2 := by unfold code7; rw [if_pos h, h2]
def idleRes (L : List (List Int)) (a b : Int) : Bool := if code7 L a b = 0 then idleB L a.toNat b else false
theorem ret_bi {p q : Bool} {a b : Int} (h : p = q) (k : a = b) : Ending.returned (.tuple #[.bool p, .int .i64 a]) = .returned (.tuple #[.bool q, .int .i64 b]) := by rw [h, k]
theorem pkt_hd {x : List Int} {i : Nat} (h : i < x.length) (b : Int) : pkt x i b = pocketI x[i] b := by unfold pkt; simp [List.getD, List.getElem?_eq_getElem h]
theorem head_cards {hs : List Hd} (h : 0 < hs.length) : (cards hs).headD [] = hs[0].xs := by
  cases hs with
  | nil => simp at h
  | cons x hs => rfl
theorem deck_col {hs : List Hd} (h : deckOk (cards hs) = true) {i : Nat} (hi : i < deckW (cards hs)) {k : Nat} (hk : k < hs.length) : i < hs[k].xs.length := by
  have h1 := deckOk_hd h hk
  rw [deckW_pos (by omega)] at hi
  have h2 := deckOk_hd h (k := 0) (by omega)
  omega

set_option maxHeartbeats 2000000 in
theorem isIdle1_any (bp bd : Nat) (D : Option Addr) (c : Nat) (hs : List Hd) (k i : Nat) (b : Int) (w : World) (hp0 : w.cell? ⟨bp, 0, none⟩ = some (.int .i64 (i : Int))) (hp1 : w.cell? ⟨bp, 1, none⟩ = some (.int .i64 b)) (hd : w.cell? ⟨bd, 0, none⟩ = some (.slice D hs.length c))
    (ha : RdD w w.heap.size D hs) (hok : deckOk (cards hs) = true) (hi : i < deckW (cards hs)) (hk : k < hs.length) (hl : hs.length ≤ 1048576) :
    Calls Tryz.prog 90 #[.agg #[.slice hs[k].a hs[k].xs.length hs[k].c], .pointer (some ⟨bp, 0, none⟩), .pointer (some ⟨bd, 0, none⟩)] w fun e w' => e = .returned (.bool (pkt hs[k].xs i b != pkt ((cards hs).headD []) i b)) ∧ Below w.heap.size w w' := by
  have h0l : 0 < hs.length := by omega
  have hi0 := deck_col hok hi h0l
  have hik := deck_col hok hi hk
  have HP := Lib.hid (show (pkt hs[k].xs i b != pkt ((cards hs).headD []) i b) = (pocketI hs[k].xs[i] b != pocketI hs[0].xs[i] b) by rw [head_cards h0l, pkt_hd hik, pkt_hd hi0])
  have g := cardOk_hole (deckOk_hd hok hk).1 hik
  have g0 := cardOk_hole (deckOk_hd hok h0l).1 hi0
  obtain ⟨u, hu⟩ : ∃ u, u = hs[k].xs[i] := ⟨_, rfl⟩
  obtain ⟨u0, hu0⟩ : ∃ u0, u0 = hs[0].xs[i] := ⟨_, rfl⟩
  rw [← hu, ← hu0] at HP
  rw [← hu] at g
  rw [← hu0] at g0
  have m1 := (cardOk_len (deckOk_hd hok hk).1).2
  have m2 := (cardOk_len (deckOk_hd hok h0l).1).2
  obtain ⟨bk, off, hD, _, hcell⟩ := ha.at_ h0l
  have c0 := hcell 0 h0l
  rw [Nat.add_zero] at c0
  obtain ⟨b1, o1, ha1, _, hc1⟩ := (ha.card_at hk).at_ hik
  have c1 := hc1 i _ (ints_get _ i hik)
  rw [← hu] at c1
  obtain ⟨b2, o2, ha2, _, hc2⟩ := (ha.card_at h0l).at_ hi0
  have c2 := hc2 i _ (ints_get _ i hi0)
  rw [← hu0] at c2
  subst hD
  rw [ha1]
  rw [ha2] at c0
  have i0 : (0 : Int) < (hs.length : Int) := by omega
  have i1 : (i : Int) < (hs[k].xs.length : Int) := by omega
  have i2 : (i : Int) < (hs[0].xs.length : Int) := by omega
  have bx : Obj := .cells #[.slice (some ⟨b1, o1, none⟩) hs[k].xs.length hs[k].c] 62
  have l0 := fun x : Later (w.alloc (.cells #[.slice (some ⟨b1, o1, none⟩) hs[k].xs.length hs[k].c] 62)) => lat_cell x (cell_alloc c0 _)
  have l1 := fun x : Later (w.alloc (.cells #[.slice (some ⟨b1, o1, none⟩) hs[k].xs.length hs[k].c] 62)) => lat_cell x (cell_alloc c1 _)
  have l2 := fun x : Later (w.alloc (.cells #[.slice (some ⟨b1, o1, none⟩) hs[k].xs.length hs[k].c] 62)) => lat_cell x (cell_alloc c2 _)
  have l3 := fun x : Later (w.alloc (.cells #[.slice (some ⟨b1, o1, none⟩) hs[k].xs.length hs[k].c] 62)) => lat_cell x (cell_alloc hp0 _)
  have l4 := fun x : Later (w.alloc (.cells #[.slice (some ⟨b1, o1, none⟩) hs[k].xs.length hs[k].c] 62)) => lat_cell x (cell_alloc hp1 _)
  have l5 := fun x : Later (w.alloc (.cells #[.slice (some ⟨b1, o1, none⟩) hs[k].xs.length hs[k].c] 62)) => lat_cell x (cell_alloc hd _)
  have l6 := fun x : Later (w.alloc (.cells #[.slice (some ⟨b1, o1, none⟩) hs[k].xs.length hs[k].c] 62)) => lat_cell x (b := w.heap.size) (o := 0) (cell_new rfl rfl)
  clear hcell hc1 hc2 ha ha1 ha2 hok c0 c1 c2 hp0 hp1 hd bx hu hu0
  go_enter Tryz.func90, Tryz.ntmps90
  go_wp2_with fail
  refine wp_region_later (by kernel_rfl) (by kernel_rfl) ?_
  repeat (go_big_quiet_step ((first | (go_at_call_of 91 (Value.int IntKind.i64 u); exact lat_pure (pocketOf_any u b g.1 g.2 _)) | (go_at_call_of 91 (Value.int IntKind.i64 u0); exact lat_pure (pocketOf_any u0 b g0.1 g0.2 _)))))
  refine wpQuiet_nil ?_
  intro w1 hb1
  go_wp2
  go_ret
  exact ⟨ret_bool HP.out.symm, bs (ba (b0 _) _) hb1⟩

set_option maxHeartbeats 1000000 in
theorem isIdle_any (D : Option Addr) (c : Nat) (hs : List Hd) (i : Nat) (b : Int) (w : World) (ha : RdD w w.heap.size D hs) (hok : deckOk (cards hs) = true) (hi : i < deckW (cards hs)) (hl : hs.length ≤ 1048576) :
    Calls Tryz.prog 51 #[.slice D hs.length c, .agg #[.int .i64 (i : Int), .int .i64 b]] w fun e w' => e = .returned (.bool (idleB (cards hs) i b)) ∧ Below w.heap.size w w' := by
  have ha2 := (ha.a1 (.cells #[.slice D hs.length c] 29)).a1 (.cells #[.int .i64 (i : Int), .int .i64 b] 46)
  have c1 : World.cell? ((w.alloc (.cells #[.slice D hs.length c] 29)).alloc (.cells #[.int .i64 (i : Int), .int .i64 b] 46)) ⟨w.heap.size, 0, none⟩ = some (.slice D hs.length c) := cell_alloc (cell_new rfl rfl) _
  have c2 : World.cell? ((w.alloc (.cells #[.slice D hs.length c] 29)).alloc (.cells #[.int .i64 (i : Int), .int .i64 b] 46)) ⟨w.heap.size + 1, 0, none⟩ = some (.int .i64 (i : Int)) := cell_new (by simp) rfl
  have c3 : World.cell? ((w.alloc (.cells #[.slice D hs.length c] 29)).alloc (.cells #[.int .i64 (i : Int), .int .i64 b] 46)) ⟨w.heap.size + 1, 1, none⟩ = some (.int .i64 b) := cell_new (by simp) rfl
  have hcon := Lib.hid (ContainsFuncCard_any D c hs 90 #[.pointer (some ⟨w.heap.size + 1, 0, none⟩), .pointer (some ⟨w.heap.size, 0, none⟩)] (fun x => pkt x i b != pkt ((cards hs).headD []) i b) _ ha2 hl Tryz.call90
    (fun h hh w' hbk => by
      obtain ⟨k, hk, rfl⟩ := List.mem_iff_getElem.1 hh
      exact isIdle1_any _ _ D c hs k i b w' (cell_later hbk c2) (cell_later hbk c3) (cell_later hbk c1) (ha2.up hbk) hok hi hk hl))
  clear ha2 c1 c2 c3
  obtain ⟨q, hq⟩ : ∃ q, q = (cards hs).any (fun x => pkt x i b != pkt ((cards hs).headD []) i b) := ⟨_, rfl⟩
  rw [← hq] at hcon
  have HQ := Lib.hid (show idleB (cards hs) i b = !q by rw [hq]; rfl)
  clear hq
  go_enter Tryz.func51, Tryz.ntmps51
  go_wp2_with fail
  refine hcon.out.mono ?_; rintro e w1 ⟨rfl, hb1⟩
  go_wp2
  go_ret
  exact ⟨ret_bool HQ.out.symm, bs (ba (ba (b0 _) _) _) hb1⟩

theorem idle_bad {hs : List Hd} {i : Nat} {b : Int} {k : Nat} (hk : k < hs.length) (h : ¬ pkt hs[k].xs i b = pkt ((cards hs).headD []) i b) : idleB (cards hs) i b = false := by
  unfold idleB
  rw [show (cards hs).any (fun x => pkt x i b != pkt ((cards hs).headD []) i b) = true from List.any_eq_true.2 ⟨hs[k].xs, by simp only [cards]; exact List.mem_map_of_mem (List.getElem_mem hk), by simpa using h⟩]
  rfl
theorem zero_case (hs : List Hd) (i : Nat) (b : Int) : ∀ j (hj : j < hs.length), j < 1 → pkt hs[j].xs i b = pkt ((cards hs).headD []) i b := by
  intro j hj h
  obtain rfl : j = 0 := by omega
  rw [head_cards hj]
theorem idle_end {hs : List Hd} {i : Nat} {b : Int} (h : ∀ k (hk : k < hs.length), pkt hs[k].xs i b = pkt ((cards hs).headD []) i b) : idleB (cards hs) i b = true := by
  unfold idleB
  rw [show (cards hs).any (fun x => pkt x i b != pkt ((cards hs).headD []) i b) = false from by
    rw [List.any_eq_false]
    intro x hx
    simp only [cards, List.mem_map] at hx
    obtain ⟨y, hy, rfl⟩ := hx
    obtain ⟨k, hk, rfl⟩ := List.mem_iff_getElem.1 hy
    simpa using h k hk]
  rfl

set_option maxHeartbeats 2000000 in
theorem l08Idle_any (D : Option Addr) (c : Nat) (hs : List Hd) (i : Nat) (b : Int) (w : World) (ha : RdD w w.heap.size D hs) (hok : deckOk (cards hs) = true) (hi : i < deckW (cards hs)) (hl : hs.length ≤ 1048576) :
    Calls Tryz.prog 43 #[.slice D hs.length c, .agg #[.int .i64 (i : Int), .int .i64 b]] w fun e w' => e = .returned (.bool (idleB (cards hs) i b)) ∧ Below w.heap.size w w' := by
  have T0 : Below w.heap.size w (w.alloc (.cells #[.int .i64 (i : Int), .int .i64 b] 46)) := ba (b0 _) _
  replace ha := ha.a1 (.cells #[.int .i64 (i : Int), .int .i64 b] 46)
  obtain ⟨W, hW⟩ : ∃ W, W = w.alloc (.cells #[.int .i64 (i : Int), .int .i64 b] 46) := ⟨_, rfl⟩
  have c2 : W.cell? ⟨w.heap.size, 0, none⟩ = some (.int .i64 (i : Int)) := by rw [hW]; exact cell_new rfl rfl
  have c3 : W.cell? ⟨w.heap.size, 1, none⟩ = some (.int .i64 b) := by rw [hW]; exact cell_new rfl rfl
  rw [← hW] at ha T0
  have HOK := Lib.hid hok
  have HI := Lib.hid hi
  have HPK := Lib.hid (show ∀ (V : World) (j : Nat) (hj : j < hs.length), RdD V V.heap.size D hs → ∀ bb oo, D = some ⟨bb, oo, none⟩ →
      Calls Tryz.prog 78 #[.pointer (some ⟨bb, oo + j, none⟩), .agg #[.int .i64 (i : Int), .int .i64 b]] V fun e w' => e = .returned (.int .i64 (pkt hs[j].xs i b)) ∧ Below V.heap.size V w' by
    intro V j hj hr bb oo hD
    obtain ⟨b', off', hD', _, hcell⟩ := hr.at_ hj
    rw [hD] at hD'
    injection hD' with hD'
    injection hD' with hD1 hD2
    subst hD1
    subst hD2
    have hij := deck_col HOK.out HI.out hj
    rw [pkt_hd hij]
    exact l07Pocket_any bb (oo + j) hs[j].a hs[j].c i hs[j].xs b V (hcell j hj) (hr.card_at hj) (deckOk_hd HOK.out hj).1 hij)
  clear hok hi
  have HWW := Lib.hid hW
  clear hW
  go_enter Tryz.func43, Tryz.ntmps43
  go_wp2
  rw [← HWW.out]
  go_loopw [5] (fun q wr => ∃ k : Nat, 1 ≤ k ∧ (k ≤ hs.length ∨ hs.length = 0) ∧ q = .int .i64 k ∧ (∀ j (hj : j < hs.length), j < k → pkt hs[j].xs i b = pkt ((cards hs).headD []) i b) ∧ Below W.heap.size W wr) (fun q _ => hs.length - (intOf q).toNat)
  case atStart => exact ⟨1, by omega, by omega, rfl, zero_case hs i b, b0 _⟩
  case round =>
    obtain ⟨k, hk1, hk, rfl, hall, hbw⟩ := hrel
    have HALL := Lib.hid hall
    clear hall
    by_cases hlt : k < hs.length
    · have h0l : 0 < hs.length := by omega
      have i0 : (0 : Int) < (hs.length : Int) := by omega
      have i1 : (k : Int) < (hs.length : Int) := by omega
      have hra := ha.up hbw
      obtain ⟨bk, off, hD, _, hcell⟩ := hra.at_ hlt
      have HDD := Lib.hid hD
      subst hD
      have HH := Lib.hid (head_cards h0l)
      have m2 := cell_later hbw c2
      have m3 := cell_later hbw c3
      have l2 := fun x : Later wr => lat_cell x m2
      have l3 := fun x : Later wr => lat_cell x m3
      clear hcell
      by_cases hq : pkt hs[k].xs i b = pkt hs[0].xs i b
      · have HN := Lib.hid (show ∀ j (hj : j < hs.length), j < k + 1 → pkt hs[j].xs i b = pkt ((cards hs).headD []) i b from fun j hj h => by
          rcases Nat.lt_succ_iff_lt_or_eq.1 h with h | rfl
          · exact HALL.out j hj h
          · rw [HH.out, hq])
        have e1 := bne_f hq
        have e2 := beq_t hq
        clear hq
        go_wp2_with fail
        refine wp_region_later (by kernel_rfl) (by kernel_rfl) ?_
        repeat (go_big_quiet_step ((first | (go_at_call_of 78 (Value.pointer (some ⟨bk, off + k, none⟩)); exact lat_call (HPK.out _ k hlt (hra.up (Later.below _)) bk off rfl)) | (go_at_call 78; exact lat_call (HPK.out _ 0 h0l (hra.up (Later.below _)) bk off rfl)))))
        refine wpQuiet_nil ?_
        intro w4 hb4
        go_wp2
        go_roundw
        case rel => exact ⟨k + 1, by omega, by omega, by go_num, HN.out, bs hbw hb4⟩
        case measure => simp [intOf]; omega
      · have HN := Lib.hid (idle_bad (i := i) (b := b) hlt (by rw [HH.out]; exact hq))
        have e1 := bne_t hq
        have e2 := beq_f hq
        clear hq
        go_wp2_with fail
        refine wp_region_later (by kernel_rfl) (by kernel_rfl) ?_
        repeat (go_big_quiet_step ((first | (go_at_call_of 78 (Value.pointer (some ⟨bk, off + k, none⟩)); exact lat_call (HPK.out _ k hlt (hra.up (Later.below _)) bk off rfl)) | (go_at_call 78; exact lat_call (HPK.out _ 0 h0l (hra.up (Later.below _)) bk off rfl)))))
        refine wpQuiet_nil ?_
        intro w4 hb4
        go_wp2
        go_ret
        exact ⟨ret_bool HN.out.symm, bs T0 (bs hbw hb4)⟩
    · have HN := Lib.hid (idle_end (hs := hs) (i := i) (b := b) (fun j hj => HALL.out j hj (by omega)))
      go_wp2
      go_ret
      exact ⟨ret_bool HN.out.symm, bs T0 hbw⟩

set_option maxHeartbeats 4000000 in
theorem IsIdlePass_any (D : Option Addr) (c : Nat) (hs : List Hd) (L : List (List Int)) (a b : Int) (w : World) (ha : RdD w w.heap.size D hs) (hL : cards hs = L) (hl : hs.length + tot hs ≤ 1048576) (_hc : hs.length ≤ c) :
    Calls Tryz.prog 20 #[.slice D hs.length c, .agg #[.int .i64 a, .int .i64 b]] w fun e w' => e = .returned (.tuple #[.bool (idleRes L a b), .int .i64 (code7 L a b)]) ∧ Below w.heap.size w w' := by
  subst hL
  have T0 : Below w.heap.size w (w.alloc (.cells #[.int .i64 a, .int .i64 b] 46)) := ba (b0 _) _
  replace ha := ha.a1 (.cells #[.int .i64 a, .int .i64 b] 46)
  rcases Bool.eq_false_or_eq_true (deckOk (cards hs)) with h1 | h1
  · have hw := deckOk_wid h1
    have H1 := Lib.hid h1
    rcases Bool.eq_false_or_eq_true (passOk (deckW (cards hs) : Int) (a, b)) with h2 | h2
    · have HC := Lib.hid (code7_0 h1 h2)
      have hps : passesOk (deckW (cards hs) : Int) [(a, b)] = true := by rw [passesOk_one, h2]
      obtain ⟨i, rfl, hi⟩ := passOk_col h2
      have HR := Lib.hid (show idleRes (cards hs) (i : Int) b = idleB (cards hs) i b by unfold idleRes; rw [if_pos HC.out]; rfl)
      clear h2
      go_enter Tryz.func20, Tryz.ntmps20
      go_wp2_with fail
      refine (ValidDeck_any _ _ hs _ ha hl).mono ?_; rintro e w1 ⟨rfl, hb1⟩
      have k2 : w1.cell? ⟨w.heap.size, 0, none⟩ = some (.int .i64 (i : Int)) := cell_later hb1 (cell_new rfl rfl)
      have k3 : w1.cell? ⟨w.heap.size, 1, none⟩ = some (.int .i64 b) := cell_later hb1 (cell_new rfl rfl)
      have r1 := ha.up hb1
      have T1 := bs T0 hb1
      clear ha T0 hb1
      go_wp2_with fail
      go_region_held3 (fun w' => w'.cell? ⟨w.heap.size, 0, none⟩ = some (.int .i64 (i : Int)) ∧ w'.cell? ⟨w.heap.size, 1, none⟩ = some (.int .i64 b)) (first | exact ⟨k2, k3⟩ | exact ⟨cell_alloc k2 _, cell_alloc k3 _⟩ | go_keep)
        (first
          | (go_at_call 50; refine (deckColumns_any D c hs _ ?_ hl).mono ?_; (first | exact r1 | exact (r1).drew | exact (r1.a1 _).drew | exact r1.a1 _ | exact (r1.drew).a1 _); rintro e w3 ⟨rfl, hb3⟩; (first | (have T3 : Below w1.heap.size w1 w3 := bs (b0 w1).drew hb3; have O3 : True := trivial) | (have T3 : Below w1.heap.size w1 w3 := (by first | exact bs (ba (b0 w1).drew (.cells #[.int .i64 (i : Int), .int .i64 b] 46)) hb3 | exact bs (ba (b0 w1) (.cells #[.int .i64 (i : Int), .int .i64 b] 46)).drew hb3); have q0 : w3.cell? ⟨w1.heap.size, 0, none⟩ = some (.int .i64 (i : Int)) := cell_later hb3 (cell_new rfl rfl); have q1 : w3.cell? ⟨w1.heap.size, 1, none⟩ = some (.int .i64 b) := cell_later hb3 (cell_new rfl rfl))); replace k2 := cell_later T3 k2; replace k3 := cell_later T3 k3; replace r1 := r1.up T3; replace T1 := bs T1 T3; clear hb3)
          | (go_at_call 49; refine (arePasses_any _ _ [((i : Int), b)] _ _ ?_ ?_ ?_ ?_).mono ?_; (first | exact rd_pair q0 q1 | exact rd_pair (cell_new rfl rfl) (cell_new rfl rfl)); (simp only [List.length_singleton]; omega); (omega); (omega); rintro e w4 ⟨rfl, hb4⟩; (first | (have T5 : Below w3.heap.size w3 w4 := hb4) | (have T5 : Below w3.heap.size w3 w4 := bs (ba (b0 w3) (.cells #[.int .i64 (i : Int), .int .i64 b] 46)) hb4)); replace k2 := cell_later T5 k2; replace k3 := cell_later T5 k3; replace r1 := r1.up T5; have T4 := bs T1 T5; clear hb4 T5 T1 T3)
        )
      all_goals
        go_wp2_with fail
        refine (isIdle_any _ _ hs i b _ r1 H1.out hi (by omega)).mono ?_; rintro e w5 ⟨rfl, hb5⟩
        go_wp2
        go_ret2
        exact ⟨ret_bi HR.out.symm HC.out.symm, bs T4 hb5⟩
    · have HC := Lib.hid (code7_2 h1 h2)
      have HR := Lib.hid (show idleRes (cards hs) a b = false by unfold idleRes; rw [if_neg (by rw [HC.out]; decide)])
      have hps : passesOk (deckW (cards hs) : Int) [(a, b)] = false := by rw [passesOk_one, h2]
      clear h2
      go_enter Tryz.func20, Tryz.ntmps20
      go_wp2_with fail
      refine (ValidDeck_any _ _ hs _ ha hl).mono ?_; rintro e w1 ⟨rfl, hb1⟩
      have k2 : w1.cell? ⟨w.heap.size, 0, none⟩ = some (.int .i64 a) := cell_later hb1 (cell_new rfl rfl)
      have k3 : w1.cell? ⟨w.heap.size, 1, none⟩ = some (.int .i64 b) := cell_later hb1 (cell_new rfl rfl)
      have r1 := ha.up hb1
      have T1 := bs T0 hb1
      clear ha T0 hb1
      go_wp2_with fail
      go_region_held3 (fun w' => w'.cell? ⟨w.heap.size, 0, none⟩ = some (.int .i64 a) ∧ w'.cell? ⟨w.heap.size, 1, none⟩ = some (.int .i64 b)) (first | exact ⟨k2, k3⟩ | exact ⟨cell_alloc k2 _, cell_alloc k3 _⟩ | go_keep)
        (first
          | (go_at_call 50; refine (deckColumns_any D c hs _ ?_ hl).mono ?_; (first | exact r1 | exact (r1).drew | exact (r1.a1 _).drew | exact r1.a1 _ | exact (r1.drew).a1 _); rintro e w3 ⟨rfl, hb3⟩; (first | (have T3 : Below w1.heap.size w1 w3 := bs (b0 w1).drew hb3; have O3 : True := trivial) | (have T3 : Below w1.heap.size w1 w3 := (by first | exact bs (ba (b0 w1).drew (.cells #[.int .i64 a, .int .i64 b] 46)) hb3 | exact bs (ba (b0 w1) (.cells #[.int .i64 a, .int .i64 b] 46)).drew hb3); have q0 : w3.cell? ⟨w1.heap.size, 0, none⟩ = some (.int .i64 a) := cell_later hb3 (cell_new rfl rfl); have q1 : w3.cell? ⟨w1.heap.size, 1, none⟩ = some (.int .i64 b) := cell_later hb3 (cell_new rfl rfl))); replace k2 := cell_later T3 k2; replace k3 := cell_later T3 k3; replace r1 := r1.up T3; replace T1 := bs T1 T3; clear hb3)
          | (go_at_call 49; refine (arePasses_any _ _ [(a, b)] _ _ ?_ ?_ ?_ ?_).mono ?_; (first | exact rd_pair q0 q1 | exact rd_pair (cell_new rfl rfl) (cell_new rfl rfl)); (simp only [List.length_singleton]; omega); (omega); (omega); rintro e w4 ⟨rfl, hb4⟩; (first | (have T5 : Below w3.heap.size w3 w4 := hb4) | (have T5 : Below w3.heap.size w3 w4 := bs (ba (b0 w3) (.cells #[.int .i64 a, .int .i64 b] 46)) hb4)); replace k2 := cell_later T5 k2; replace k3 := cell_later T5 k3; replace r1 := r1.up T5; have T4 := bs T1 T5; clear hb4 T5 T1 T3)
        )
      all_goals
        go_wp2
        go_ret2
        exact ⟨ret_bi HR.out.symm HC.out.symm, T4⟩
  · have HC := Lib.hid (code7_1 (a := a) (b := b) h1)
    have HR := Lib.hid (show idleRes (cards hs) a b = false by unfold idleRes; rw [if_neg (by rw [HC.out]; decide)])
    go_enter Tryz.func20, Tryz.ntmps20
    go_wp2_with fail
    refine (ValidDeck_any _ _ hs _ ha hl).mono ?_; rintro e w1 ⟨rfl, hb1⟩
    go_wp2
    go_ret2
    exact ⟨ret_bi HR.out.symm HC.out.symm, bs T0 hb1⟩

end Go.Proofs.YtkcnahjgkhgebaaGreat
