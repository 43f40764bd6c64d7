/- CompareCards; in the program and in the reference. -/
import Derived.Test.YtlnpkijeondidaaCards
import Derived.Test.YtlnpkijeondidaaValidCopies
import Derived.Test.YtlnpkijeondidaaLater
namespace Go.Proofs.Ytlnpkijeondidaa
open Go.RowKit

/-- Do the two columns of copy number j differ? -/
def diffAt (xs ys : List Int) (ps : List (Int × Int)) (j : Nat) : Bool := xs.getD (ps.getD j (0, 0)).1.toNat 0 != ys.getD (ps.getD j (0, 0)).2.toNat 0
def diffL (xs ys : List Int) (ps : List (Int × Int)) : List Int := colsWhere (diffAt xs ys ps) ps.length
/-- All copies fit cards of n and m columns. -/
def FitC (ps : List (Int × Int)) (n m : Nat) : Prop := ∀ j (hj : j < ps.length), ∃ a b : Nat, ps[j] = ((a : Int), (b : Int)) ∧ a < n ∧ b < m
theorem plainB_at {ps : List (Int × Int)} (h : plainB ps = true) {j : Nat} (hj : j < ps.length) : 0 ≤ ps[j].1 ∧ 0 ≤ ps[j].2 ∧ ps[j].2 ≤ 19 := by
  have := List.all_eq_true.1 h j (List.mem_range.2 hj)
  simp only [plainAt, Bool.and_eq_true, List.getD, List.getElem?_eq_getElem hj, Option.getD_some] at this
  have h1 := insideB_true this.1
  have h2 := insideB_true this.2.1
  omega
theorem copiesOk_fit {ps : List (Int × Int)} {n m : Nat} (h : copiesOk ps (n : Int) (m : Int) = true) : FitC ps n m := by
  intro j hj
  simp only [copiesOk, Bool.and_eq_true] at h
  have h1 := plainB_at h.1 hj
  have h2 := List.all_eq_true.1 h.2 _ (List.getElem_mem hj)
  simp only [fitsB, Bool.and_eq_true, decide_eq_true_eq] at h2
  exact ⟨ps[j].1.toNat, ps[j].2.toNat, Prod.ext (by simp only; omega) (by simp only; omega), by omega, by omega⟩
theorem validB_fit {ps : List (Int × Int)} {n m : Nat} (h : validB ps (n : Int) (m : Int) = true) : FitC ps n m := by
  simp only [validB, Bool.and_eq_true] at h
  exact copiesOk_fit h.2.2
theorem validB_card {xs ys : List Int} (h : cardOk xs = true) (h' : cardOk ys = true) (ps : List (Int × Int)) : validB ps (xs.length : Int) (ys.length : Int) = copiesOk ps (xs.length : Int) (ys.length : Int) := by
  have h1 := cardOk_len h
  have h2 := cardOk_len h'
  unfold validB
  rw [insideB_mk (by omega) (by omega), insideB_mk (by omega) (by omega)]
  rfl
theorem diffAt_get {xs ys : List Int} {ps : List (Int × Int)} {j a b : Nat} (hj : j < ps.length) (h : ps[j] = ((a : Int), (b : Int))) (ha : a < xs.length) (hb : b < ys.length) : diffAt xs ys ps j = (xs[a] != ys[b]) := by
  unfold diffAt
  simp [List.getD, List.getElem?_eq_getElem hj, h, ha, hb]
theorem diffL_le (xs ys : List Int) (ps : List (Int × Int)) : (diffL xs ys ps).length ≤ ps.length := colsWhere_le _ _

set_option maxHeartbeats 4000000 in
theorem compared_any (A A' P : Option Addr) (c c' cp : Nat) (xs ys : List Int) (ps : List (Int × Int)) (w : World) (ha : Rd w w.heap.size 1 A xs.length (ints xs)) (hb : Rd w w.heap.size 1 A' ys.length (ints ys)) (hp : Rd w w.heap.size 2 P ps.length (prs ps)) (hf : FitC ps xs.length ys.length) (h20 : xs.length ≤ 20) (h20' : ys.length ≤ 20) (hl : ps.length ≤ 1048576) :
    Calls Try.prog 86 #[.agg #[.slice A xs.length c], .agg #[.slice A' ys.length c'], .slice P ps.length cp] w fun e w' => ∃ B d, e = .returned (.slice B (diffL xs ys ps).length d) ∧ w'.ownsRow w.heap.size 2 1 (.slice B (diffL xs ys ps).length d) (diffL xs ys ps).length (ints (diffL xs ys ps)) ∧ Below w.heap.size w w' := by
  have T0 : Below w.heap.size w ((w.alloc (.cells #[.slice A xs.length c] 28)).alloc (.cells #[.slice A' ys.length c'] 28)) := ba (ba (b0 _) _) _
  replace ha := (ha.a1 (.cells #[.slice A xs.length c] 28)).a1 (.cells #[.slice A' ys.length c'] 28)
  replace hb := (hb.a1 (.cells #[.slice A xs.length c] 28)).a1 (.cells #[.slice A' ys.length c'] 28)
  replace hp := (hp.a1 (.cells #[.slice A xs.length c] 28)).a1 (.cells #[.slice A' ys.length c'] 28)
  obtain ⟨W, hW⟩ : ∃ W, W = (w.alloc (.cells #[.slice A xs.length c] 28)).alloc (.cells #[.slice A' ys.length c'] 28) := ⟨_, rfl⟩
  have k1 : W.cell? ⟨w.heap.size, 0, none⟩ = some (.slice A xs.length c) := by rw [hW]; exact cell_alloc (cell_new rfl rfl) _
  have k2 : W.cell? ⟨w.heap.size + 1, 0, none⟩ = some (.slice A' ys.length c') := by rw [hW]; exact cell_new (by simp) rfl
  rw [← hW] at ha hb hp T0
  obtain ⟨i0', hi, hz0, hz1, hz2⟩ := info_parts info_i64
  have HF := Lib.hid hf
  clear hf
  have HW := Lib.hid hW
  clear hW
  go_enter Try.func86, Try.ntmps86
  go_wp2
  rw [← HW.out]
  go_loopw [7, 8, 9, 13] (fun o _ _ i wr => ∃ (k : Nat) (G : Option Addr) (cg : Nat), k ≤ ps.length ∧ i = .int .i64 k ∧ o = .slice G (colsWhere (diffAt xs ys ps) k).length cg ∧ wr.ownsRow W.heap.size 2 1 (.slice G (colsWhere (diffAt xs ys ps) k).length cg) (colsWhere (diffAt xs ys ps) k).length (ints (colsWhere (diffAt xs ys ps) k)) ∧ Below W.heap.size W wr)
    (fun _ _ _ i _ => ps.length - (intOf i).toNat)
  case atStart => exact ⟨0, _, _, Nat.zero_le _, rfl, rfl, own_lit W #[] 0 (by first | rfl | (rw [HW.out]; simp) | rw [HW.out]) (Nat.le_refl _) (by omega) rfl, ba (b0 _) _⟩
  case round =>
    obtain ⟨k, G, cg, hk, rfl, rfl, hown, hbw⟩ := hrel
    by_cases hlt : k < ps.length
    · obtain ⟨a, b, hab, hax, hby⟩ := HF.out k hlt
      have HAB := Lib.hid (diffAt_get (xs := xs) (ys := ys) hlt hab hax hby)
      obtain ⟨bp, op, rfl, _, hcp⟩ := (hp.up hbw).at_ hlt
      have p1 := hcp _ _ (prs_fst ps k hlt)
      have p2 := hcp _ _ (prs_snd ps k hlt)
      rw [← Nat.add_assoc] at p2
      rw [hab] at p1 p2
      simp only at p1 p2
      obtain ⟨b1, o1, hA1, _, hc1⟩ := (ha.up hbw).at_ hax
      have c1 := hc1 _ _ (ints_get xs a hax)
      obtain ⟨b2, o2, hA2, _, hc2⟩ := (hb.up hbw).at_ hby
      have c2 := hc2 _ _ (ints_get ys b hby)
      have m1 := cell_later hbw k1
      have m2 := cell_later hbw k2
      rw [hA1] at m1
      rw [hA2] at m2
      have i1 : (a : Int) < (xs.length : Int) := by omega
      have i2 : (b : Int) < (ys.length : Int) := by omega
      have i3 : (k : Int) < (ps.length : Int) := by omega
      have hcl := colsWhere_le (diffAt xs ys ps) k
      have l1 := fun x : Later (wr.alloc (.cells #[.int .i64 (a : Int), .int .i64 (b : Int)] 107)) => lat_cell x (cell_alloc (m1) _)
      have l2 := fun x : Later (wr.alloc (.cells #[.int .i64 (a : Int), .int .i64 (b : Int)] 107)) => lat_cell x (cell_alloc (m2) _)
      have l3 := fun x : Later (wr.alloc (.cells #[.int .i64 (a : Int), .int .i64 (b : Int)] 107)) => lat_cell x (cell_alloc (c1) _)
      have l4 := fun x : Later (wr.alloc (.cells #[.int .i64 (a : Int), .int .i64 (b : Int)] 107)) => lat_cell x (cell_alloc (c2) _)
      have l5 := fun x : Later (wr.alloc (.cells #[.int .i64 (a : Int), .int .i64 (b : Int)] 107)) => lat_cell x (b := wr.heap.size) (o := 0) (cell_new rfl rfl)
      have l6 := fun x : Later (wr.alloc (.cells #[.int .i64 (a : Int), .int .i64 (b : Int)] 107)) => lat_cell x (b := wr.heap.size) (o := 1) (cell_new rfl rfl)
      have hbB : Below W.heap.size W (wr.alloc (.cells #[.int .i64 (a : Int), .int .i64 (b : Int)] 107)) := ba hbw _
      have hoB := hown.alloc (.cells #[.int .i64 (a : Int), .int .i64 (b : Int)] 107)
      clear hc1 hc2 hcp hA1 hA2 hab
      by_cases hq : xs[a] = ys[b]
      · have HN := Lib.hid (colsWhere_no (p := diffAt xs ys ps) (n := k) (by rw [HAB.out]; exact bne_f hq))
        have e1 := bne_f hq
        have e2 := beq_t hq
        clear hq
        go_wp2_with fail
        refine wp_region_later (by kernel_rfl) (by kernel_rfl) ?_
        repeat (go_big_quiet_step (fail))
        refine wpQuiet_nil ?_
        intro w4 hb4
        have HO := Lib.hid (own_bs hoB hb4)
        have HBB := Lib.hid (bs hbB hb4)
        clear hoB hbB hb4
        go_wp2
        go_roundw
        case rel => exact ⟨k + 1, G, cg, by omega, by go_num, by rw [HN.out], by rw [HN.out]; exact HO.out, HBB.out⟩
        case measure => simp [intOf]; omega
      · have HN := Lib.hid (colsWhere_yes (p := diffAt xs ys ps) (n := k) (by rw [HAB.out]; exact bne_t hq))
        have HNL := Lib.hid (show (colsWhere (diffAt xs ys ps) (k + 1)).length = (colsWhere (diffAt xs ys ps) k).length + 1 by rw [HN.out, List.length_append]; rfl)
        have e1 := bne_t hq
        have e2 := beq_f hq
        clear hq
        go_wp2_with fail
        refine wp_region_later (by kernel_rfl) (by kernel_rfl) ?_
        repeat (go_big_quiet_step (fail))
        refine wpQuiet_nil ?_
        intro w4 hb4
        have hown1 := own_bs hoB hb4
        have HB4 := Lib.hid (bs hbB hb4)
        have hbase := HB4.out.size
        clear hoB hbB hb4 hown
        go_wp2_with (at_builtin; refine wpList_ap rfl (.tmp 31) (.tmp 33) 22 rfl W.heap.size 2 i0' _ 1 8 Try.underlying22 hi hz0 hz1 hz2 rfl (by omega) G (colsWhere (diffAt xs ys ps) k).length cg (ints (colsWhere (diffAt xs ys ps) k)) rfl w4 hown1 1 #[.int .i64 (k : Int)] w4.heap.size rfl rfl rfl (by intro u hu; simp at hu; subst hu; rfl) (by omega) (by omega) (by omega) hbase ?_; intro g cap w5 hown2 hb5 hg5 _ _)
        have HO := Lib.hid (show w5.ownsRow W.heap.size 2 1 (.slice (some ⟨g, 0, none⟩) (colsWhere (diffAt xs ys ps) (k + 1)).length cap) (colsWhere (diffAt xs ys ps) (k + 1)).length (ints (colsWhere (diffAt xs ys ps) (k + 1))) by rw [HNL.out, HN.out, ints_snoc]; exact hown2)
        have HB5 := Lib.hid (HB4.out.trans hb5)
        clear hown1 hown2 hb5 hg5 hbase
        go_wp2
        go_roundw
        case rel => exact ⟨k + 1, some ⟨g, 0, none⟩, cap, by omega, by go_num, by rw [HNL.out], HO.out, HB5.out⟩
        case measure => simp [intOf]; omega
    · obtain rfl : k = ps.length := by omega
      go_wp2
      go_ret
      exact ⟨G, cg, rfl, own_base hown T0.size, bs T0 hbw⟩

set_option maxHeartbeats 4000000 in
theorem l10Differ_any (p q p' q' : Nat) (A A' P : Option Addr) (c c' cp : Nat) (xs ys : List Int) (ps : List (Int × Int)) (w : World) (k1 : w.cell? ⟨p, q, none⟩ = some (.slice A xs.length c)) (k2 : w.cell? ⟨p', q', none⟩ = some (.slice A' ys.length c')) (ha : Rd w w.heap.size 1 A xs.length (ints xs)) (hb : Rd w w.heap.size 1 A' ys.length (ints ys)) (hp : Rd w w.heap.size 2 P ps.length (prs ps)) (hf : FitC ps xs.length ys.length) (h20 : xs.length ≤ 20) (h20' : ys.length ≤ 20) (hl : ps.length ≤ 1048576) :
    Calls Try.prog 83 #[.pointer (some ⟨p, q, none⟩), .pointer (some ⟨p', q', none⟩), .slice P ps.length cp] w fun e w' => ∃ B d, e = .returned (.slice B (diffL xs ys ps).length d) ∧ w'.ownsRow w.heap.size 2 1 (.slice B (diffL xs ys ps).length d) (diffL xs ys ps).length (ints (diffL xs ys ps)) ∧ Below w.heap.size w w' := by
  obtain ⟨W, hW⟩ : ∃ W, W = w := ⟨_, rfl⟩
  have T0 : Below w.heap.size w W := by rw [hW]; exact b0 _
  rw [← hW] at ha hb hp k1 k2
  obtain ⟨i0', hi, hz0, hz1, hz2⟩ := info_parts info_i64
  have HF := Lib.hid hf
  clear hf
  have HW := Lib.hid hW
  clear hW
  go_enter Try.func83, Try.ntmps83
  go_wp2
  rw [← HW.out]
  go_loopw [7, 8] (fun o i wr => ∃ (k : Nat) (G : Option Addr) (cg : Nat), k ≤ ps.length ∧ i = .int .i64 k ∧ o = .slice G (colsWhere (diffAt xs ys ps) k).length cg ∧ wr.ownsRow W.heap.size 2 1 (.slice G (colsWhere (diffAt xs ys ps) k).length cg) (colsWhere (diffAt xs ys ps) k).length (ints (colsWhere (diffAt xs ys ps) k)) ∧ Below W.heap.size W wr)
    (fun _ i _ => ps.length - (intOf i).toNat)
  case atStart => exact ⟨0, _, _, Nat.zero_le _, rfl, rfl, own_lit W #[] 0 (by first | rfl | (rw [HW.out]; simp) | rw [HW.out]) (Nat.le_refl _) (by omega) rfl, ba (b0 _) _⟩
  case round =>
    obtain ⟨k, G, cg, hk, rfl, rfl, hown, hbw⟩ := hrel
    by_cases hlt : k < ps.length
    · obtain ⟨a, b, hab, hax, hby⟩ := HF.out k hlt
      have HAB := Lib.hid (diffAt_get (xs := xs) (ys := ys) hlt hab hax hby)
      obtain ⟨bp, op, rfl, _, hcp⟩ := (hp.up hbw).at_ hlt
      have p1 := hcp _ _ (prs_fst ps k hlt)
      have p2 := hcp _ _ (prs_snd ps k hlt)
      rw [← Nat.add_assoc] at p2
      rw [hab] at p1 p2
      simp only at p1 p2
      obtain ⟨b1, o1, hA1, _, hc1⟩ := (ha.up hbw).at_ hax
      have c1 := hc1 _ _ (ints_get xs a hax)
      obtain ⟨b2, o2, hA2, _, hc2⟩ := (hb.up hbw).at_ hby
      have c2 := hc2 _ _ (ints_get ys b hby)
      have m1 := cell_later hbw k1
      have m2 := cell_later hbw k2
      rw [hA1] at m1
      rw [hA2] at m2
      have i1 : (a : Int) < (xs.length : Int) := by omega
      have i2 : (b : Int) < (ys.length : Int) := by omega
      have i3 : (k : Int) < (ps.length : Int) := by omega
      have hcl := colsWhere_le (diffAt xs ys ps) k
      have l1 := fun x : Later wr => lat_cell x (m1)
      have l2 := fun x : Later wr => lat_cell x (m2)
      have l3 := fun x : Later wr => lat_cell x (c1)
      have l4 := fun x : Later wr => lat_cell x (c2)
      have l5 := fun x : Later wr => lat_cell x p1
      have l6 := fun x : Later wr => lat_cell x p2
      have hbB : Below W.heap.size W wr := hbw
      have hoB := hown
      clear hc1 hc2 hcp hA1 hA2 hab
      by_cases hq : xs[a] = ys[b]
      · have HN := Lib.hid (colsWhere_no (p := diffAt xs ys ps) (n := k) (by rw [HAB.out]; exact bne_f hq))
        have e1 := bne_f hq
        have e2 := beq_t hq
        clear hq
        go_wp2_with fail
        refine wp_region_later (by kernel_rfl) (by kernel_rfl) ?_
        repeat (go_big_quiet_step (fail))
        refine wpQuiet_nil ?_
        intro w4 hb4
        have HO := Lib.hid (own_bs hoB hb4)
        have HBB := Lib.hid (bs hbB hb4)
        clear hoB hbB hb4
        go_wp2
        go_roundw
        case rel => exact ⟨k + 1, G, cg, by omega, by go_num, by rw [HN.out], by rw [HN.out]; exact HO.out, HBB.out⟩
        case measure => simp [intOf]; omega
      · have HN := Lib.hid (colsWhere_yes (p := diffAt xs ys ps) (n := k) (by rw [HAB.out]; exact bne_t hq))
        have HNL := Lib.hid (show (colsWhere (diffAt xs ys ps) (k + 1)).length = (colsWhere (diffAt xs ys ps) k).length + 1 by rw [HN.out, List.length_append]; rfl)
        have e1 := bne_t hq
        have e2 := beq_f hq
        clear hq
        go_wp2_with fail
        refine wp_region_later (by kernel_rfl) (by kernel_rfl) ?_
        repeat (go_big_quiet_step (fail))
        refine wpQuiet_nil ?_
        intro w4 hb4
        have hown1 := own_bs hoB hb4
        have HB4 := Lib.hid (bs hbB hb4)
        have hbase := HB4.out.size
        clear hoB hbB hb4 hown
        go_wp2_with (at_builtin; refine wpList_ap rfl (.tmp 39) (.tmp 41) 22 rfl W.heap.size 2 i0' _ 1 8 Try.underlying22 hi hz0 hz1 hz2 rfl (by omega) G (colsWhere (diffAt xs ys ps) k).length cg (ints (colsWhere (diffAt xs ys ps) k)) rfl w4 hown1 1 #[.int .i64 (k : Int)] w4.heap.size rfl rfl rfl (by intro u hu; simp at hu; subst hu; rfl) (by omega) (by omega) (by omega) hbase ?_; intro g cap w5 hown2 hb5 hg5 _ _)
        have HO := Lib.hid (show w5.ownsRow W.heap.size 2 1 (.slice (some ⟨g, 0, none⟩) (colsWhere (diffAt xs ys ps) (k + 1)).length cap) (colsWhere (diffAt xs ys ps) (k + 1)).length (ints (colsWhere (diffAt xs ys ps) (k + 1))) by rw [HNL.out, HN.out, ints_snoc]; exact hown2)
        have HB5 := Lib.hid (HB4.out.trans hb5)
        clear hown1 hown2 hb5 hg5 hbase
        go_wp2
        go_roundw
        case rel => exact ⟨k + 1, some ⟨g, 0, none⟩, cap, by omega, by go_num, by rw [HNL.out], HO.out, HB5.out⟩
        case measure => simp [intOf]; omega
    · obtain rfl : k = ps.length := by omega
      go_wp2
      go_ret
      exact ⟨G, cg, rfl, own_base hown T0.size, bs T0 hbw⟩

def cmpC (xs ys : List Int) (ps : List (Int × Int)) : Int := if cardOk xs = true ∧ cardOk ys = true then (if copiesOk ps (xs.length : Int) (ys.length : Int) = true then 0 else 2) else 1
def cmpRes (xs ys : List Int) (ps : List (Int × Int)) : List Int := if cmpC xs ys ps = 0 then diffL xs ys ps else []
theorem cmpC_1 {xs ys : List Int} {ps : List (Int × Int)} (h : cardOk xs = false) : cmpC xs ys ps = 1 := by unfold cmpC; rw [if_neg (by simp [h])]
theorem cmpC_2 {xs ys : List Int} {ps : List (Int × Int)} (h : cardOk ys = false) : cmpC xs ys ps = 1 := by unfold cmpC; rw [if_neg (by simp [h])]
theorem cmpC_q {xs ys : List Int} {ps : List (Int × Int)} {q : Bool} (h : cardOk xs = true) (h' : cardOk ys = true) (h2 : copiesOk ps (xs.length : Int) (ys.length : Int) = q) : cmpC xs ys ps = if q = true then 0 else 2 := by unfold cmpC; rw [if_pos ⟨h, h'⟩, h2]
theorem cmpRes_no {xs ys : List Int} {ps : List (Int × Int)} (h : ¬ cmpC xs ys ps = 0) : cmpRes xs ys ps = [] := by unfold cmpRes; rw [if_neg h]
theorem cmpRes_yes {xs ys : List Int} {ps : List (Int × Int)} (h : cmpC xs ys ps = 0) : cmpRes xs ys ps = diffL xs ys ps := by unfold cmpRes; rw [if_pos h]
theorem cmpRes_length (xs ys : List Int) (ps : List (Int × Int)) : (cmpRes xs ys ps).length ≤ ps.length := by
  unfold cmpRes
  split
  · exact diffL_le _ _ _
  · simp

set_option maxHeartbeats 4000000 in
theorem CompareCards_any (A : Option Addr) (c : Nat) (xs : List Int) (A' : Option Addr) (c' : Nat) (ys : List Int) (P : Option Addr) (cp : Nat) (ps : List (Int × Int)) (w : World) (ha : Rd w w.heap.size 1 A xs.length (ints xs)) (hl : xs.length ≤ 1048576) (_hc : xs.length ≤ c) (hb : Rd w w.heap.size 1 A' ys.length (ints ys)) (hl' : ys.length ≤ 1048576) (_hc' : ys.length ≤ c') (hp : Rd w w.heap.size 2 P ps.length (prs ps)) (hlp : ps.length ≤ 1048576) :
    Calls Try.prog 28 #[.agg #[.slice A xs.length c], .agg #[.slice A' ys.length c'], .slice P ps.length cp] w fun e w' => ∃ B d, e = .returned (.tuple #[.slice B (cmpRes xs ys ps).length d, .int .i64 (cmpC xs ys ps)]) ∧ w'.ownsRow w.heap.size 2 1 (.slice B (cmpRes xs ys ps).length d) (cmpRes xs ys ps).length (ints (cmpRes xs ys ps)) ∧ Below w.heap.size w w' := by
  have T0 : Below w.heap.size w ((w.alloc (.cells #[.slice A xs.length c] 28)).alloc (.cells #[.slice A' ys.length c'] 28)) := ba (ba (b0 _) _) _
  replace ha := (ha.a1 (.cells #[.slice A xs.length c] 28)).a1 (.cells #[.slice A' ys.length c'] 28)
  replace hb := (hb.a1 (.cells #[.slice A xs.length c] 28)).a1 (.cells #[.slice A' ys.length c'] 28)
  replace hp := (hp.a1 (.cells #[.slice A xs.length c] 28)).a1 (.cells #[.slice A' ys.length c'] 28)
  rcases Bool.eq_false_or_eq_true (cardOk xs) with h1 | h1
  case inr =>
    have HC := Lib.hid (cmpC_1 (ys := ys) (ps := ps) h1)
    have HR := Lib.hid (cmpRes_no (xs := xs) (ys := ys) (ps := ps) (by rw [HC.out]; decide))
    go_enter Try.func28, Try.ntmps28
    go_wp2_with fail
    refine (ValidCard_any _ _ xs _ ha hl).mono ?_; rintro e w1 ⟨rfl, hb1⟩
    go_wp2
    go_ret2
    rw [HR.out, HC.out]
    exact ⟨none, 0, rfl, World.ownsRow_nil _ _ _ _, bs T0 hb1⟩
  rcases Bool.eq_false_or_eq_true (cardOk ys) with h2 | h2
  case inr =>
    have HC := Lib.hid (cmpC_2 (xs := xs) (ps := ps) h2)
    have HR := Lib.hid (cmpRes_no (xs := xs) (ys := ys) (ps := ps) (by rw [HC.out]; decide))
    go_enter Try.func28, Try.ntmps28
    go_wp2_with fail
    refine (ValidCard_any _ _ xs _ ha hl).mono ?_; rintro e w1 ⟨rfl, hb1⟩
    have k1 : w1.cell? ⟨w.heap.size, 0, none⟩ = some (.slice A xs.length c) := cell_later hb1 (cell_alloc (cell_new rfl rfl) _)
    have k2 : w1.cell? ⟨w.heap.size + 1, 0, none⟩ = some (.slice A' ys.length c') := cell_later hb1 (cell_new (by simp) rfl)
    go_wp2_with fail
    refine (ValidCard_any _ _ ys _ (hb.up hb1) hl').mono ?_; rintro e w2 ⟨rfl, hb2⟩
    go_wp2
    go_ret2
    rw [HR.out, HC.out]
    exact ⟨none, 0, rfl, World.ownsRow_nil _ _ _ _, bs (bs T0 hb1) hb2⟩
  have H1 := Lib.hid h1
  have H2 := Lib.hid h2
  have h20 := (cardOk_len h1).2
  have h20' := (cardOk_len h2).2
  rcases Bool.eq_false_or_eq_true (copiesOk ps (xs.length : Int) (ys.length : Int)) with h3 | h3
  · have HC := Lib.hid (cmpC_q h1 h2 h3)
    have HR := Lib.hid (cmpRes_yes (xs := xs) (ys := ys) (ps := ps) (by rw [HC.out]; rfl))
    have HFIT := Lib.hid (copiesOk_fit h3)
    have hv : validB ps (xs.length : Int) (ys.length : Int) = true := by rw [validB_card H1.out H2.out, h3]
    go_enter Try.func28, Try.ntmps28
    go_wp2_with fail
    refine (ValidCard_any _ _ xs _ ha hl).mono ?_; rintro e w1 ⟨rfl, hb1⟩
    have k1 : w1.cell? ⟨w.heap.size, 0, none⟩ = some (.slice A xs.length c) := cell_later hb1 (cell_alloc (cell_new rfl rfl) _)
    have k2 : w1.cell? ⟨w.heap.size + 1, 0, none⟩ = some (.slice A' ys.length c') := cell_later hb1 (cell_new (by simp) rfl)
    go_wp2_with fail
    refine (ValidCard_any _ _ ys _ (hb.up hb1) hl').mono ?_; rintro e w2 ⟨rfl, hb2⟩
    replace k1 := cell_later hb2 k1
    replace k2 := cell_later hb2 k2
    have rp := (hp.up hb1).up hb2
    have T12 := bs hb1 hb2
    clear hb1 hb2 hp
    go_wp2_with fail
    have l1 := fun x : Later w2 => lat_cell x k1
    have l2 := fun x : Later w2 => lat_cell x k2
    refine wp_region_later (by kernel_rfl) (by kernel_rfl) ?_
    repeat (go_big_quiet_step ((first | (go_at_call 73; first | exact lat_call (columns_any _ _ _ _ hl) | exact lat_call (columns_any _ _ _ _ hl')) | (go_at_call 85; exact lat_call (ValidCopies_any _ _ ps _ _ _ (lat_rd _ rp) hlp)))))
    refine wpQuiet_nil ?_
    intro w3 hb3
    replace k1 := cell_later hb3 k1
    replace k2 := cell_later hb3 k2
    clear l1 l2
    go_wp2_with fail
    refine (compared_any _ _ _ _ _ _ xs ys ps _ ((ha.up T12).up hb3) ((hb.up T12).up hb3) (rp.up hb3) HFIT.out h20 h20' hlp).mono ?_; rintro e w4 ⟨B, d, rfl, ho4, hb4⟩
    go_wp2
    go_ret2
    rw [HR.out, HC.out]
    exact ⟨B, d, rfl, own_base ho4 (bs (bs T0 T12) hb3).size, bs (bs (bs T0 T12) hb3) hb4⟩
  · have HC := Lib.hid (cmpC_q h1 h2 h3)
    have HR := Lib.hid (cmpRes_no (xs := xs) (ys := ys) (ps := ps) (by rw [HC.out]; decide))
    have hv : validB ps (xs.length : Int) (ys.length : Int) = false := by rw [validB_card H1.out H2.out, h3]
    go_enter Try.func28, Try.ntmps28
    go_wp2_with fail
    refine (ValidCard_any _ _ xs _ ha hl).mono ?_; rintro e w1 ⟨rfl, hb1⟩
    have k1 : w1.cell? ⟨w.heap.size, 0, none⟩ = some (.slice A xs.length c) := cell_later hb1 (cell_alloc (cell_new rfl rfl) _)
    have k2 : w1.cell? ⟨w.heap.size + 1, 0, none⟩ = some (.slice A' ys.length c') := cell_later hb1 (cell_new (by simp) rfl)
    go_wp2_with fail
    refine (ValidCard_any _ _ ys _ (hb.up hb1) hl').mono ?_; rintro e w2 ⟨rfl, hb2⟩
    replace k1 := cell_later hb2 k1
    replace k2 := cell_later hb2 k2
    have rp := (hp.up hb1).up hb2
    have T12 := bs hb1 hb2
    clear hb1 hb2 hp
    go_wp2_with fail
    have l1 := fun x : Later w2 => lat_cell x k1
    have l2 := fun x : Later w2 => lat_cell x k2
    refine wp_region_later (by kernel_rfl) (by kernel_rfl) ?_
    repeat (go_big_quiet_step ((first | (go_at_call 73; first | exact lat_call (columns_any _ _ _ _ hl) | exact lat_call (columns_any _ _ _ _ hl')) | (go_at_call 85; exact lat_call (ValidCopies_any _ _ ps _ _ _ (lat_rd _ rp) hlp)))))
    refine wpQuiet_nil ?_
    intro w3 hb3
    replace k1 := cell_later hb3 k1
    replace k2 := cell_later hb3 k2
    clear l1 l2
    go_wp2
    go_ret2
    rw [HR.out, HC.out]
    exact ⟨none, 0, rfl, World.ownsRow_nil _ _ _ _, bs (bs T0 T12) hb3⟩

set_option maxHeartbeats 4000000 in
theorem spCompareCards_any (A : Option Addr) (c : Nat) (xs : List Int) (A' : Option Addr) (c' : Nat) (ys : List Int) (P : Option Addr) (cp : Nat) (ps : List (Int × Int)) (w : World) (ha : Rd w w.heap.size 1 A xs.length (ints xs)) (hl : xs.length ≤ 1048576) (_hc : xs.length ≤ c) (hb : Rd w w.heap.size 1 A' ys.length (ints ys)) (hl' : ys.length ≤ 1048576) (_hc' : ys.length ≤ c') (hp : Rd w w.heap.size 2 P ps.length (prs ps)) (hlp : ps.length ≤ 1048576) :
    Calls Try.prog 26 #[.agg #[.slice A xs.length c], .agg #[.slice A' ys.length c'], .slice P ps.length cp] w fun e w' => ∃ B d, e = .returned (.tuple #[.slice B (cmpRes xs ys ps).length d, .int .i64 (cmpC xs ys ps)]) ∧ w'.ownsRow w.heap.size 2 1 (.slice B (cmpRes xs ys ps).length d) (cmpRes xs ys ps).length (ints (cmpRes xs ys ps)) ∧ Below w.heap.size w w' := by
  have T0 : Below w.heap.size w ((w.alloc (.cells #[.slice A xs.length c] 28)).alloc (.cells #[.slice A' ys.length c'] 28)) := ba (ba (b0 _) _) _
  replace ha := (ha.a1 (.cells #[.slice A xs.length c] 28)).a1 (.cells #[.slice A' ys.length c'] 28)
  replace hb := (hb.a1 (.cells #[.slice A xs.length c] 28)).a1 (.cells #[.slice A' ys.length c'] 28)
  replace hp := (hp.a1 (.cells #[.slice A xs.length c] 28)).a1 (.cells #[.slice A' ys.length c'] 28)
  rcases Bool.eq_false_or_eq_true (cardOk xs) with h1 | h1
  case inr =>
    have HC := Lib.hid (cmpC_1 (ys := ys) (ps := ps) h1)
    have HR := Lib.hid (cmpRes_no (xs := xs) (ys := ys) (ps := ps) (by rw [HC.out]; decide))
    go_enter Try.func26, Try.ntmps26
    go_wp2_with fail
    refine (l02Ok_any w.heap.size 0 A c xs _ (cell_alloc (cell_new rfl rfl) _) ha hl).mono ?_; rintro e w1 ⟨rfl, hb1⟩
    go_wp2
    go_ret2
    rw [HR.out, HC.out]
    exact ⟨none, 0, rfl, World.ownsRow_nil _ _ _ _, bs T0 hb1⟩
  rcases Bool.eq_false_or_eq_true (cardOk ys) with h2 | h2
  case inr =>
    have HC := Lib.hid (cmpC_2 (xs := xs) (ps := ps) h2)
    have HR := Lib.hid (cmpRes_no (xs := xs) (ys := ys) (ps := ps) (by rw [HC.out]; decide))
    go_enter Try.func26, Try.ntmps26
    go_wp2_with fail
    refine (l02Ok_any w.heap.size 0 A c xs _ (cell_alloc (cell_new rfl rfl) _) ha hl).mono ?_; rintro e w1 ⟨rfl, hb1⟩
    have k1 : w1.cell? ⟨w.heap.size, 0, none⟩ = some (.slice A xs.length c) := cell_later hb1 (cell_alloc (cell_new rfl rfl) _)
    have k2 : w1.cell? ⟨w.heap.size + 1, 0, none⟩ = some (.slice A' ys.length c') := cell_later hb1 (cell_new (by simp) rfl)
    go_wp2_with fail
    refine (l02Ok_any (w.heap.size + 1) 0 A' c' ys _ k2 (hb.up hb1) hl').mono ?_; rintro e w2 ⟨rfl, hb2⟩
    go_wp2
    go_ret2
    rw [HR.out, HC.out]
    exact ⟨none, 0, rfl, World.ownsRow_nil _ _ _ _, bs (bs T0 hb1) hb2⟩
  have H1 := Lib.hid h1
  have H2 := Lib.hid h2
  have h20 := (cardOk_len h1).2
  have h20' := (cardOk_len h2).2
  rcases Bool.eq_false_or_eq_true (copiesOk ps (xs.length : Int) (ys.length : Int)) with h3 | h3
  · have HC := Lib.hid (cmpC_q h1 h2 h3)
    have HR := Lib.hid (cmpRes_yes (xs := xs) (ys := ys) (ps := ps) (by rw [HC.out]; rfl))
    have HFIT := Lib.hid (copiesOk_fit h3)
    have hv := h3
    go_enter Try.func26, Try.ntmps26
    go_wp2_with fail
    refine (l02Ok_any w.heap.size 0 A c xs _ (cell_alloc (cell_new rfl rfl) _) ha hl).mono ?_; rintro e w1 ⟨rfl, hb1⟩
    have k1 : w1.cell? ⟨w.heap.size, 0, none⟩ = some (.slice A xs.length c) := cell_later hb1 (cell_alloc (cell_new rfl rfl) _)
    have k2 : w1.cell? ⟨w.heap.size + 1, 0, none⟩ = some (.slice A' ys.length c') := cell_later hb1 (cell_new (by simp) rfl)
    go_wp2_with fail
    refine (l02Ok_any (w.heap.size + 1) 0 A' c' ys _ k2 (hb.up hb1) hl').mono ?_; rintro e w2 ⟨rfl, hb2⟩
    replace k1 := cell_later hb2 k1
    replace k2 := cell_later hb2 k2
    have rp := (hp.up hb1).up hb2
    have T12 := bs hb1 hb2
    clear hb1 hb2 hp
    go_wp2_with fail
    refine (l10Ok_any _ _ ps _ _ _ rp hlp).mono ?_; rintro e w3 ⟨rfl, hb3⟩
    go_wp2_with fail
    refine (l10Differ_any _ _ _ _ A A' _ c c' _ xs ys ps _ (cell_later hb3 k1) (cell_later hb3 k2) ((ha.up T12).up hb3) ((hb.up T12).up hb3) (rp.up hb3) HFIT.out h20 h20' hlp).mono ?_; rintro e w4 ⟨B, d, rfl, ho4, hb4⟩
    go_wp2
    go_ret2
    rw [HR.out, HC.out]
    exact ⟨B, d, rfl, own_base ho4 (bs (bs T0 T12) hb3).size, bs (bs (bs T0 T12) hb3) hb4⟩
  · have HC := Lib.hid (cmpC_q h1 h2 h3)
    have HR := Lib.hid (cmpRes_no (xs := xs) (ys := ys) (ps := ps) (by rw [HC.out]; decide))
    have hv := h3
    go_enter Try.func26, Try.ntmps26
    go_wp2_with fail
    refine (l02Ok_any w.heap.size 0 A c xs _ (cell_alloc (cell_new rfl rfl) _) ha hl).mono ?_; rintro e w1 ⟨rfl, hb1⟩
    have k1 : w1.cell? ⟨w.heap.size, 0, none⟩ = some (.slice A xs.length c) := cell_later hb1 (cell_alloc (cell_new rfl rfl) _)
    have k2 : w1.cell? ⟨w.heap.size + 1, 0, none⟩ = some (.slice A' ys.length c') := cell_later hb1 (cell_new (by simp) rfl)
    go_wp2_with fail
    refine (l02Ok_any (w.heap.size + 1) 0 A' c' ys _ k2 (hb.up hb1) hl').mono ?_; rintro e w2 ⟨rfl, hb2⟩
    replace k1 := cell_later hb2 k1
    replace k2 := cell_later hb2 k2
    have rp := (hp.up hb1).up hb2
    have T12 := bs hb1 hb2
    clear hb1 hb2 hp
    go_wp2_with fail
    refine (l10Ok_any _ _ ps _ _ _ rp hlp).mono ?_; rintro e w3 ⟨rfl, hb3⟩
    go_wp2
    go_ret2
    rw [HR.out, HC.out]
    exact ⟨none, 0, rfl, World.ownsRow_nil _ _ _ _, bs (bs T0 T12) hb3⟩
end Go.Proofs.Ytlnpkijeondidaa
