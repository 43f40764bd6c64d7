/- When passes sort all decks: the two ways of saying it are one. No walk here. AlwaysSorts; in the program and in the reference. AlwaysSorts: the loops; in the program and in the reference. AlwaysSorts: the loops of the program and of the reference, and the calls. AlwaysSorts: the reference's loops, and the calls. AlwaysSorts: the calls, in the program and in the reference. -/
import Derived.Test.YtmfoaggohlfflaaGreatDoorRunLaw
import Derived.Test.YtmfoaggohlfflaaGreatDoorCodeAll
import Derived.Test.YtmfoaggohlfflaaGreatDoorPlan
import Derived.Test.YtmfoaggohlfflaaGreatDoorPasses
import Derived.IntWalk
/-! ### When passes sort all decks: the two ways of saying it are one. No walk here. -/
namespace Go.Proofs.YtmfoaggohlfflaaGreatDoor
open Go.RowKit

/-- The place of the pocket of holes in which it is gathered. -/
def placeI (u m : Int) : Int := idxP (fun k : Int => k == pocketI u m) (ordI m)
theorem ordI_mem (u : Int) {m : Int} (hm : m = 1 ∨ m = 2) : pocketI u m ∈ ordI m := by
  have h := pkt_ord [u] 0 hm
  obtain ⟨k, hk, hkp⟩ := List.any_eq_true.1 h
  have e : pkt [u] 0 m = pocketI u m := rfl
  rw [e] at hkp
  simp only [beq_iff_eq] at hkp
  unfold ordI
  exact List.mem_map.2 ⟨k, hk, hkp.symm⟩
theorem idxP_eq_iff {l : List Int} {a b : Int} (ha : a ∈ l) (hb : b ∈ l) : (idxP (fun k : Int => k == a) l = idxP (fun k : Int => k == b) l) ↔ a = b := by
  constructor
  · intro h
    have h1 : l.any (fun k : Int => k == a) = true := List.any_eq_true.2 ⟨a, ha, by simp⟩
    have h2 : l.any (fun k : Int => k == b) = true := List.any_eq_true.2 ⟨b, hb, by simp⟩
    unfold idxP at h
    rw [if_pos h1, if_pos h2] at h
    have l1 : l.findIdx (fun k : Int => k == a) < l.length := List.findIdx_lt_length_of_exists ⟨a, ha, by simp⟩
    have l2 : l.findIdx (fun k : Int => k == b) < l.length := List.findIdx_lt_length_of_exists ⟨b, hb, by simp⟩
    have g1 := List.findIdx_getElem (w := l1)
    have g2 := List.findIdx_getElem (w := l2)
    simp only [beq_iff_eq] at g1 g2
    have e : l.findIdx (fun k : Int => k == a) = l.findIdx (fun k : Int => k == b) := by omega
    rw [← g1, ← g2]
    simp only [e]
  · intro h
    rw [h]
theorem place_iff (x y : Int) {m : Int} (hm : m = 1 ∨ m = 2) : (placeI x m = placeI y m) ↔ pocketI x m = pocketI y m := idxP_eq_iff (ordI_mem x hm) (ordI_mem y hm)
theorem placeI_range (u m : Int) : -1 ≤ placeI u m ∧ placeI u m ≤ 11 := by
  unfold placeI idxP
  split
  · rename_i h
    obtain ⟨x, hx, hpx⟩ := List.any_eq_true.1 h
    have h1 := List.findIdx_lt_length_of_exists (p := fun k : Int => k == pocketI u m) ⟨x, hx, hpx⟩
    have h2 := ordN_len m
    rw [ordI_length] at h1
    omega
  · omega

/-- The last of the first k passes on the column in which two columns have different pockets; does the first come first in it? -/
def decN (ps : List (Int × Int)) (col x y : Int) : Nat → Int × Bool
  | 0 => (-1, false)
  | k + 1 => if (ps.getD k (0, 0)).1 = col ∧ pocketI x (ps.getD k (0, 0)).2 ≠ pocketI y (ps.getD k (0, 0)).2 then ((k : Int), decide (placeI x (ps.getD k (0, 0)).2 < placeI y (ps.getD k (0, 0)).2)) else decN ps col x y k
/-- The last of the first k passes on a later column. -/
def latN (ps : List (Int × Int)) (col : Int) : Nat → Int
  | 0 => -1
  | k + 1 => if col < (ps.getD k (0, 0)).1 then (k : Int) else latN ps col k
/-- Do the first k passes put two columns into their order? -/
def pairN (ps : List (Int × Int)) (col x y : Int) : Nat → Bool
  | 0 => false
  | k + 1 => if (ps.getD k (0, 0)).1 < col then pairN ps col x y k else if col < (ps.getD k (0, 0)).1 then false
      else if placeI x (ps.getD k (0, 0)).2 = placeI y (ps.getD k (0, 0)).2 then pairN ps col x y k else decide (placeI x (ps.getD k (0, 0)).2 < placeI y (ps.getD k (0, 0)).2)
theorem decN_lt (ps : List (Int × Int)) (col x y : Int) (k : Nat) : -1 ≤ (decN ps col x y k).1 ∧ (decN ps col x y k).1 < k := by
  induction k with
  | zero => simp [decN]
  | succ k ih =>
    unfold decN
    split
    · simp only; omega
    · omega
theorem latN_lt (ps : List (Int × Int)) (col : Int) (k : Nat) : -1 ≤ latN ps col k ∧ latN ps col k < k := by
  induction k with
  | zero => simp [latN]
  | succ k ih =>
    unfold latN
    split <;> omega
theorem pairN_eq (ps : List (Int × Int)) (col x y : Int) : ∀ k, k ≤ ps.length → (∀ p ∈ ps, p.2 = 1 ∨ p.2 = 2) →
    pairN ps col x y k = (decide (0 ≤ (decN ps col x y k).1) && ((decN ps col x y k).2 && decide (latN ps col k ≤ (decN ps col x y k).1)))
  | 0, _, _ => by simp [pairN, decN]
  | k + 1, hk, hm => by
    have ih := pairN_eq ps col x y k (by omega) hm
    have hd := decN_lt ps col x y k
    have hl := latN_lt ps col k
    have hmk : (ps.getD k (0, 0)).2 = 1 ∨ (ps.getD k (0, 0)).2 = 2 := by
      rw [show ps.getD k (0, 0) = ps[k]'(by omega) by simp [List.getD, show k < ps.length by omega]]
      exact hm _ (List.getElem_mem _)
    have hp := place_iff x y hmk
    unfold pairN decN latN
    generalize ps.getD k (0, 0) = p at *
    by_cases h1 : p.1 < col
    · rw [if_pos h1, if_neg (by omega), if_neg (by omega)]
      exact ih
    · rw [if_neg h1]
      by_cases h2 : col < p.1
      · rw [if_pos h2, if_pos h2, if_neg (by omega)]
        have : ¬ (k : Int) ≤ (decN ps col x y k).1 := by omega
        simp [this]
      · rw [if_neg h2, if_neg h2]
        by_cases h3 : placeI x p.2 = placeI y p.2
        · rw [if_pos h3, if_neg (fun h => h.2 (hp.1 h3))]
          exact ih
        · rw [if_neg h3, if_pos ⟨by omega, fun h => h3 (hp.2 h)⟩]
          have : latN ps col k ≤ (k : Int) := by omega
          simp [this]
def pairB (ps : List (Int × Int)) (col : Int) (i k : Nat) : Bool := pairN ps col (codeV (charL.getD i 0).toNat) (codeV (charL.getD k 0).toNat) ps.length
/-- All pairs i < k' of the characters with k' < k. -/
def rowB (ps : List (Int × Int)) (col : Int) (i k : Nat) : Bool := (List.range k).all fun j => decide (j ≤ i) || pairB ps col i j
def colB (ps : List (Int × Int)) (col : Int) (i : Nat) : Bool := (List.range i).all fun j => rowB ps col j 40
def fldB (ps : List (Int × Int)) (a : Int) (n : Nat) : Bool := (List.range n).all fun j => colB ps (a + (j : Int)) 40
def inB (ps : List (Int × Int)) (a b : Int) : Bool := ps.all fun p => insideB p.1 a (b - 1)
def alwB (ps : List (Int × Int)) (a b : Int) : Bool := inB ps a b && fldB ps a (b - a).toNat
theorem all_range_succ (p : Nat → Bool) (n : Nat) : (List.range (n + 1)).all p = ((List.range n).all p && p n) := by
  rw [List.range_succ, List.all_append]
  simp
theorem all_range_false {p : Nat → Bool} {n k : Nat} (hk : k < n) (h : p k = false) : (List.range n).all p = false := by
  rw [List.all_eq_false]
  exact ⟨k, List.mem_range.2 hk, by simp [h]⟩
theorem rowB_start (ps : List (Int × Int)) (col : Int) (i : Nat) : rowB ps col i (i + 1) = true := by
  unfold rowB
  rw [List.all_eq_true]
  intro j hj
  have := List.mem_range.1 hj
  simp
  omega
theorem rowB_yes {ps : List (Int × Int)} {col : Int} {i k : Nat} (h : rowB ps col i k = true) (hp : pairB ps col i k = true) : rowB ps col i (k + 1) = true := by
  unfold rowB at *
  rw [all_range_succ, h, hp]
  simp
theorem rowB_no {ps : List (Int × Int)} {col : Int} {i k : Nat} (hik : i < k) (hk : k < 40) (hp : pairB ps col i k = false) : rowB ps col i 40 = false := by
  unfold rowB
  refine all_range_false hk ?_
  rw [hp]
  simp
  omega
theorem colB_yes {ps : List (Int × Int)} {col : Int} {i : Nat} (h : colB ps col i = true) (hp : rowB ps col i 40 = true) : colB ps col (i + 1) = true := by
  unfold colB at *
  rw [all_range_succ, h, hp]
  rfl
theorem colB_no {ps : List (Int × Int)} {col : Int} {i : Nat} (hi : i < 40) (hp : rowB ps col i 40 = false) : colB ps col 40 = false := all_range_false hi hp
theorem fldB_yes {ps : List (Int × Int)} {a : Int} {n : Nat} (h : fldB ps a n = true) (hp : colB ps (a + (n : Int)) 40 = true) : fldB ps a (n + 1) = true := by
  unfold fldB at *
  rw [all_range_succ, h, hp]
  rfl
theorem fldB_no {ps : List (Int × Int)} {a : Int} {n j : Nat} (hj : j < n) (hp : colB ps (a + (j : Int)) 40 = false) : fldB ps a n = false := all_range_false hj hp
def alwC (ps : List (Int × Int)) (a b : Int) : Int := if fieldOk a b 20 = true then (if passesOk 20 ps = true then 0 else 2) else 2
def alwR (ps : List (Int × Int)) (a b : Int) : Bool := if alwC ps a b = 0 then alwB ps a b else false
end Go.Proofs.YtmfoaggohlfflaaGreatDoor

/-! ### AlwaysSorts; in the program and in the reference. -/
namespace Go.Proofs.YtmfoaggohlfflaaGreatDoor
open Go.RowKit

set_option maxHeartbeats 1000000 in
theorem IndexInts_any (A : Option Addr) (c n : Nat) (xs : List Int) (v : Int) (w : World) (hn : xs.length = n) (ha : Rd w w.heap.size 1 A n (ints xs)) (hl : n ≤ 1048576) :
    Calls Tryz.prog 141 #[.slice A n c, .int .i64 v] w fun e w' => e = .returned (.int .i64 (idxP (fun k : Int => k == v) xs)) ∧ w = w' := by
  have HN := Lib.hid hn
  clear hn
  go_enter Tryz.func141, Tryz.ntmps141
  go_wp2
  go_loop [8] (fun i => ∃ k : Nat, k ≤ n ∧ i = .int .i64 k ∧ (xs.take k).any (fun k : Int => k == v) = false) (fun i => n - (intOf i).toNat)
  case atStart => exact ⟨0, Nat.zero_le _, rfl, rfl⟩
  case round =>
    obtain ⟨k, hk, rfl, hno⟩ := hrel
    have HNO := Lib.hid hno
    clear hno
    by_cases hlt : k < n
    · have HKL := Lib.hid (show k < xs.length by rw [HN.out]; exact hlt)
      obtain ⟨b, o, rfl, _, hc⟩ := ha.at_ hlt
      have d1 := hc k _ (ints_get xs k HKL.out)
      obtain ⟨u, hu⟩ : ∃ u, u = xs[k]'HKL.out := ⟨_, rfl⟩
      rw [← hu] at d1
      have HU := Lib.hid hu
      have i1 : (k : Int) < (n : Int) := by omega
      clear hc hu
      by_cases hp : v = u
      · have HP := Lib.hid (idxP_some (p := fun k : Int => k == v) HKL.out HNO.out (by simp [← HU.out, hp]))
        have e1 := beq_t hp
        clear hp
        go_wp2
        go_ret
        exact ⟨ret_int HP.out.symm, rfl⟩
      · have HP := Lib.hid (any_take_succ (p := fun k : Int => k == v) HKL.out HNO.out (by rw [← HU.out]; exact beq_f (fun h => hp h.symm)))
        have e1 := beq_f hp
        clear hp
        go_wp2
        go_round
        case rel => exact ⟨k + 1, by omega, by go_num, HP.out⟩
        case measure => simp [intOf]; omega
    · have HP := Lib.hid (idxP_none (any_take_all (l := xs) (by rw [HN.out]; exact hlt) HNO.out))
      go_wp2
      go_ret
      exact ⟨ret_int HP.out.symm, rfl⟩
theorem IndexOrd_any (A : Option Addr) (c : Nat) (u m v p : Int) (w : World) (hp : p = placeI u m) (hv : v = pocketI u m) (ha : Rd w w.heap.size 1 A (ordN m).length (ints (ordI m))) :
    Calls Tryz.prog 141 #[.slice A (ordN m).length c, .int .i64 v] w fun e w' => e = .returned (.int .i64 p) ∧ w = w' := by
  rw [hp, hv]
  have := ordN_len m
  exact IndexInts_any A c (ordN m).length (ordI m) (pocketI u m) w (ordI_length m) ha (by omega)

theorem pocketOf_z (v mode z : Int) (h0 : 0 ≤ v) (h1 : v ≤ 4095) (w : World) (hz : z = pocketI v mode) :
    Calls Tryz.prog 104 #[.int .i64 v, .int .i64 mode] w fun e w' => e = .returned (.int .i64 z) ∧ w = w' := by
  subst hz
  exact pocketOf_any v mode h0 h1 w
theorem decN_hit {ps : List (Int × Int)} {col x y : Int} {k : Nat} (hk : k < ps.length) (h1 : ps[k].1 = col) (h2 : pocketI x ps[k].2 ≠ pocketI y ps[k].2) : decN ps col x y (k + 1) = ((k : Int), decide (placeI x ps[k].2 < placeI y ps[k].2)) := by
  have e : ps.getD k (0, 0) = ps[k] := by simp [List.getD, hk]
  unfold decN
  rw [e, if_pos ⟨h1, h2⟩]
theorem decN_miss {ps : List (Int × Int)} {col x y : Int} {k : Nat} (hk : k < ps.length) (h : ¬ (ps[k].1 = col ∧ pocketI x ps[k].2 ≠ pocketI y ps[k].2)) : decN ps col x y (k + 1) = decN ps col x y k := by
  have e : ps.getD k (0, 0) = ps[k] := by simp [List.getD, hk]
  show (if _ then _ else _) = _
  rw [e, if_neg h]
theorem ret_ibb {a b : Int} {p q : Bool} (h : a = b) (k : p = q) : Ending.returned (.tuple #[.int .i64 a, .bool p]) = .returned (.tuple #[.int .i64 b, .bool q]) := by rw [h, k]
/-- The index stands at the last of k passes. -/
def DeI (k : Nat) (q : Value) : Prop := q = .int .i64 ((k : Int) - 1)

set_option maxRecDepth 20000 in
set_option maxHeartbeats 4000000 in
theorem decides_any (A : Option Addr) (c : Nat) (ps : List (Int × Int)) (col x y : Int) (w : World) (ha : Rd w w.heap.size 2 A ps.length (prs ps)) (hl : ps.length ≤ 1048576) (hx0 : 0 ≤ x) (hx1 : x ≤ 4095) (hy0 : 0 ≤ y) (hy1 : y ≤ 4095) :
    Calls Tryz.prog 100 #[.slice A ps.length c, .int .i64 col, .int .i64 x, .int .i64 y] w fun e w' => e = .returned (.tuple #[.int .i64 (decN ps col x y ps.length).1, .bool (decN ps col x y ps.length).2]) ∧ Below w.heap.size w w' := by
  go_enter Tryz.func100, Tryz.ntmps100
  go_wp2
  go_loopw [10] (fun q wr => ∃ k : Nat, k ≤ ps.length ∧ q = .int .i64 ((k : Int) - 1) ∧ decN ps col x y ps.length = decN ps col x y k ∧ Below w.heap.size w wr) (fun q _ => (intOf q + 1).toNat)
  case atStart => exact ⟨ps.length, Nat.le_refl _, rfl, rfl, b0 _⟩
  case round =>
    obtain ⟨k, hk, rfl, hd, hbw⟩ := hrel
    have HD := Lib.hid hd
    clear hd
    cases k with
    | zero =>
      have h0 : ¬ (0 : Int) ≤ ((0 : Nat) : Int) - 1 := by omega
      go_wp2
      go_ret2
      exact ⟨ret_ibb (by rw [HD.out]; rfl) (by rw [HD.out]; rfl), hbw⟩
    | succ k =>
      have hlt : k < ps.length := by omega
      obtain ⟨q, hq⟩ : ∃ q : Int, q = ((k + 1 : Nat) : Int) - 1 := ⟨_, rfl⟩
      have hqk : q = (k : Int) := by omega
      rw [← hq]
      subst hqk
      have HQ := Lib.hid hq
      clear hq
      have h0 : (0 : Int) ≤ (k : Int) := by omega
      have i1 : (k : Int) < (ps.length : Int) := by omega
      obtain ⟨b, o, rfl, _, hc⟩ := ha.at_ hlt
      have d1 := cell_later hbw (hc _ _ (prs_fst ps k hlt))
      have d2 := cell_later hbw (hc _ _ (prs_snd ps k hlt))
      rw [← Nat.add_assoc] at d2
      obtain ⟨pc, hpc⟩ : ∃ pc, pc = ps[k].1 := ⟨_, rfl⟩
      obtain ⟨m, hm⟩ : ∃ m, m = ps[k].2 := ⟨_, rfl⟩
      rw [← hpc] at d1
      rw [← hm] at d2
      obtain ⟨u, hu⟩ : ∃ u, u = pocketI x m := ⟨_, rfl⟩
      obtain ⟨v, hv⟩ : ∃ v, v = pocketI y m := ⟨_, rfl⟩
      have HU := Lib.hid hu
      have HV := Lib.hid hv
      have HIT := Lib.hid (@decN_hit ps col x y k hlt)
      have MISS := Lib.hid (@decN_miss ps col x y k hlt)
      rw [← hpc, ← hm, ← hu, ← hv] at HIT MISS
      have l1 := fun z : Later wr => lat_cell z d1
      have l2 := fun z : Later wr => lat_cell z d2
      clear hc hpc hm hu hv
      go_wp2_with fail
      refine wp_region_later (by kernel_rfl) (by kernel_rfl) ?_
      repeat (go_big_quiet_step ((first | (go_at_call_of 104 (Value.int IntKind.i64 x); exact lat_pure (pocketOf_z x m u hx0 hx1 _ HU.out)) | (go_at_call_of 104 (Value.int IntKind.i64 y); exact lat_pure (pocketOf_z y m v hy0 hy1 _ HV.out)))))
      refine wpQuiet_nil ?_
      intro w4 hb4
      replace d1 := cell_later hb4 d1
      replace d2 := cell_later hb4 d2
      have T4 := bs hbw hb4
      clear hbw hb4 l1 l2
      by_cases hp : pc = col ∧ u ≠ v
      · have HH := Lib.hid (HIT.out hp.1 hp.2)
        have e1 := beq_t hp.1
        have e2 := bne_t hp.2
        obtain ⟨px, hpx⟩ : ∃ px, px = placeI x m := ⟨_, rfl⟩
        obtain ⟨py, hpy⟩ : ∃ py, py = placeI y m := ⟨_, rfl⟩
        rw [← hpx, ← hpy] at HH
        have HPX := Lib.hid hpx
        have HPY := Lib.hid hpy
        clear hp hpx hpy
        go_wp2_with fail
        refine (gatherOrder_any m _).mono ?_; rintro e w5 ⟨G, rfl, hown, hb5⟩
        have hrd := Rd.own hown
        go_wp2_with fail
        refine (IndexOrd_any _ _ x m u px _ HPX.out HU.out hrd).mono ?_; rintro e w6 ⟨rfl, rfl⟩
        go_wp2_with fail
        refine (IndexOrd_any _ _ y m v py _ HPY.out HV.out hrd).mono ?_; rintro e w6 ⟨rfl, rfl⟩
        go_wp2
        go_ret2
        exact ⟨ret_ibb (by rw [HD.out, HH.out]) (by rw [HD.out, HH.out]), bs T4 hb5⟩
      · have HM := Lib.hid (MISS.out hp)
        have HNX := Lib.hid (show decN ps col x y ps.length = decN ps col x y k by rw [HD.out, HM.out])
        by_cases hq1 : pc = col
        · have e1 := beq_t hq1
          have e2 : (u != v) = false := bne_f (by
            apply Classical.byContradiction
            intro hne
            exact hp ⟨hq1, hne⟩)
          clear hp hq1
          go_wp2
          go_roundw
          case rel => exact ⟨k, by omega, rfl, HNX.out, T4⟩
          case measure => simp [intOf]
        · have e1 := beq_f hq1
          clear hp hq1
          go_wp2
          go_roundw
          case rel => exact ⟨k, by omega, rfl, HNX.out, T4⟩
          case measure => simp [intOf]

end Go.Proofs.YtmfoaggohlfflaaGreatDoor

/-! ### AlwaysSorts: the loops; in the program and in the reference. -/
namespace Go.Proofs.YtmfoaggohlfflaaGreatDoor
open Go.RowKit

theorem pairN_lt {ps : List (Int × Int)} {col x y : Int} {k : Nat} (hk : k < ps.length) (h : ps[k].1 < col) : pairN ps col x y (k + 1) = pairN ps col x y k := by
  have e : ps.getD k (0, 0) = ps[k] := by simp [List.getD, hk]
  show (if _ then _ else _) = _
  rw [e, if_pos h]
theorem pairN_gt {ps : List (Int × Int)} {col x y : Int} {k : Nat} (hk : k < ps.length) (h : col < ps[k].1) : pairN ps col x y (k + 1) = false := by
  have e : ps.getD k (0, 0) = ps[k] := by simp [List.getD, hk]
  show (if _ then _ else _) = _
  rw [e, if_neg (by omega), if_pos h]
theorem pairN_same {ps : List (Int × Int)} {col x y : Int} {k : Nat} (hk : k < ps.length) (h1 : ¬ ps[k].1 < col) (h2 : ¬ col < ps[k].1) (h : placeI x ps[k].2 = placeI y ps[k].2) : pairN ps col x y (k + 1) = pairN ps col x y k := by
  have e : ps.getD k (0, 0) = ps[k] := by simp [List.getD, hk]
  show (if _ then _ else _) = _
  rw [e, if_neg h1, if_neg h2, if_pos h]
theorem pairN_diff {ps : List (Int × Int)} {col x y : Int} {k : Nat} (hk : k < ps.length) (h1 : ¬ ps[k].1 < col) (h2 : ¬ col < ps[k].1) (h : ¬ placeI x ps[k].2 = placeI y ps[k].2) : pairN ps col x y (k + 1) = decide (placeI x ps[k].2 < placeI y ps[k].2) := by
  have e : ps.getD k (0, 0) = ps[k] := by simp [List.getD, hk]
  show (if _ then _ else _) = _
  rw [e, if_neg h1, if_neg h2, if_neg h]

end Go.Proofs.YtmfoaggohlfflaaGreatDoor

/-! ### AlwaysSorts: the loops of the program and of the reference, and the calls. -/
namespace Go.Proofs.YtmfoaggohlfflaaGreatDoor
open Go.RowKit

theorem codeOf_z (k : Nat) (hk : k < 40) (v : Int) (hv : v = codeV (charL[k]'hk).toNat) (w : World) :
    Calls Tryz.prog 75 #[.int .u8 (charB[k]'(by exact hk)).toNat] w fun e w' => e = .returned (.int .i64 v) ∧ w = w' := by
  subst hv
  exact codeOf_ch k hk w
theorem codeOf_n (n : Int) (k : Nat) (hk : k < 40) (v : Int) (hv : v = codeV (charL[k]'hk).toNat) (hn : n = ((charB[k]'(by exact hk)).toNat : Int)) (w : World) :
    Calls Tryz.prog 75 #[.int .u8 n] w fun e w' => e = .returned (.int .i64 v) ∧ w = w' := by
  subst hn
  exact codeOf_z k hk v hv w
theorem decides_z (A : Option Addr) (c : Nat) (ps : List (Int × Int)) (col x y z : Int) (b : Bool) (w : World) (ha : Rd w w.heap.size 2 A ps.length (prs ps)) (hl : ps.length ≤ 1048576) (hx : 0 ≤ x ∧ x ≤ 4095) (hy : 0 ≤ y ∧ y ≤ 4095) (hz : z = (decN ps col x y ps.length).1) (hb : b = (decN ps col x y ps.length).2) :
    Calls Tryz.prog 100 #[.slice A ps.length c, .int .i64 col, .int .i64 x, .int .i64 y] w fun e w' => e = .returned (.tuple #[.int .i64 z, .bool b]) ∧ Below w.heap.size w w' := by
  subst hz hb
  exact decides_any A c ps col x y w ha hl hx.1 hx.2 hy.1 hy.2
theorem latN_yes {ps : List (Int × Int)} {col : Int} {k : Nat} (hk : k < ps.length) (h : col < ps[k].1) : latN ps col (k + 1) = (k : Int) := by
  have e : ps.getD k (0, 0) = ps[k] := by simp [List.getD, hk]
  show (if _ then _ else _) = _
  rw [e, if_pos h]
theorem latN_no {ps : List (Int × Int)} {col : Int} {k : Nat} (hk : k < ps.length) (h : ¬ col < ps[k].1) : latN ps col (k + 1) = latN ps col k := by
  have e : ps.getD k (0, 0) = ps[k] := by simp [List.getD, hk]
  show (if _ then _ else _) = _
  rw [e, if_neg h]
theorem char_getD {k : Nat} (hk : k < 40) : charL.getD k 0 = charL[k]'hk := by
  rw [List.getD_eq_getElem?_getD, List.getElem?_eq_getElem (show k < charL.length from hk)]
  rfl
theorem pairB_def {ps : List (Int × Int)} {col : Int} {i k : Nat} (hi : i < 40) (hk : k < 40) : pairB ps col i k = pairN ps col (codeV (charL[i]'hi).toNat) (codeV (charL[k]'hk).toNat) ps.length := by
  unfold pairB
  rw [char_getD hi, char_getD hk]
theorem pairB_dec {ps : List (Int × Int)} {col : Int} {i k : Nat} (hi : i < 40) (hk : k < 40) (hm : ∀ p ∈ ps, p.2 = 1 ∨ p.2 = 2) {z lt : Int} {b : Bool}
    (hz : z = (decN ps col (codeV (charL[i]'hi).toNat) (codeV (charL[k]'hk).toNat) ps.length).1) (hb : b = (decN ps col (codeV (charL[i]'hi).toNat) (codeV (charL[k]'hk).toNat) ps.length).2) (hlt : lt = latN ps col ps.length) :
    pairB ps col i k = (decide (0 ≤ z) && (b && decide (lt ≤ z))) := by
  rw [pairB_def hi hk, pairN_eq _ _ _ _ _ (Nat.le_refl _) hm, hz, hb, hlt]
theorem rowB_zero (ps : List (Int × Int)) (col : Int) (i : Nat) (k : Nat) (h : k = i + 1) : rowB ps col i k = true := by
  subst h
  exact rowB_start ps col i
theorem fld_no {ps : List (Int × Int)} {i j n x y : Nat} (hn : i + n < j) (hx : x < 40) (hxy : x < y) (hy : y < 40) (hp : pairB ps ((i + n : Nat) : Int) x y = false) : alwB ps (i : Int) (j : Int) = false := by
  unfold alwB
  rw [fldB_no (j := n) (by omega) (colB_no hx (rowB_no hxy hy (by rw [← hp]; congr 1)))]
  simp
theorem fld_yes {ps : List (Int × Int)} {i j n : Nat} (hn : i + n = j) (hf : fldB ps (i : Int) n = true) (hi : ps.any (fun p => !insideB p.1 (i : Int) ((j : Int) - 1)) = false) : alwB ps (i : Int) (j : Int) = true := by
  unfold alwB inB
  have h1 : (ps.all fun p => insideB p.1 (i : Int) ((j : Int) - 1)) = true := by
    rw [List.all_eq_true]
    intro p hp
    have := List.any_eq_false.1 hi p hp
    simpa using this
  rw [h1, show ((j : Int) - (i : Int)).toNat = n by omega, hf]
  rfl
theorem fld_out {ps : List (Int × Int)} {i j k : Nat} (hk : k < ps.length) (h : insideB ps[k].1 (i : Int) ((j : Int) - 1) = false) : alwB ps (i : Int) (j : Int) = false := by
  have h1 : inB ps (i : Int) (j : Int) = false := by
    unfold inB
    rw [List.all_eq_false]
    exact ⟨ps[k], List.getElem_mem hk, by simp [h]⟩
  unfold alwB
  rw [h1]
  rfl
theorem fldB_next {ps : List (Int × Int)} {i n : Nat} (h : fldB ps (i : Int) n = true) (hp : colB ps ((i + n : Nat) : Int) 40 = true) : fldB ps (i : Int) (n + 1) = true := fldB_yes h (by rw [← hp]; congr 1)
theorem lat_range (ps : List (Int × Int)) (col : Int) (k : Nat) (hk : k ≤ ps.length) (hl : ps.length ≤ 1048576) : -1 ≤ latN ps col k ∧ latN ps col k ≤ 1048576 := by
  have := latN_lt ps col k
  omega

/-- Behind so many passes: all are of the field. -/
def AIn (ps : List (Int × Int)) (i j : Nat) (w wr : World) (q : Value) : Prop := ∃ k : Nat, k ≤ ps.length ∧ q = .int .i64 k ∧ (ps.take k).any (fun p => !insideB p.1 (i : Int) ((j : Int) - 1)) = false ∧ Below w.heap.size w wr
/-- Behind so many columns. -/
def AFl (ps : List (Int × Int)) (i j : Nat) (w wr : World) (q : Value) : Prop := ∃ n : Nat, i + n ≤ j ∧ q = .int .i64 ((i + n : Nat) : Int) ∧ fldB ps (i : Int) n = true ∧ Below w.heap.size w wr
def ALt (ps : List (Int × Int)) (c : Nat) (w wr : World) (v q : Value) : Prop := ∃ k : Nat, k ≤ ps.length ∧ q = .int .i64 k ∧ v = .int .i64 (latN ps (c : Int) k) ∧ Below w.heap.size w wr
def ARow (ps : List (Int × Int)) (c : Nat) (w wr : World) (q : Value) : Prop := ∃ x : Nat, x ≤ 40 ∧ q = .int .i64 x ∧ colB ps (c : Int) x = true ∧ Below w.heap.size w wr
def APr (ps : List (Int × Int)) (c x : Nat) (w wr : World) (q : Value) : Prop := ∃ y : Nat, x < y ∧ y ≤ 40 ∧ q = .int .i64 y ∧ rowB ps (c : Int) x y = true ∧ Below w.heap.size w wr

set_option maxRecDepth 20000 in
set_option maxHeartbeats 8000000 in
theorem alwaysSorts_any (A : Option Addr) (c : Nat) (ps : List (Int × Int)) (i j : Nat) (r : Bool) (w : World) (ha : Rd w w.heap.size 2 A ps.length (prs ps)) (hl : ps.length ≤ 1048576) (hij : i < j) (hj : j ≤ 20) (hm : ∀ p ∈ ps, p.2 = 1 ∨ p.2 = 2) (hr : r = alwB ps (i : Int) (j : Int)) :
    Calls Tryz.prog 42 #[.agg #[.int .i64 (i : Int), .int .i64 (j : Int)], .slice A ps.length c] w fun e w' => e = .returned (.bool r) ∧ Below w.heap.size w w' := by
  have HR := Lib.hid hr
  have HM := Lib.hid hm
  have T0 : Below w.heap.size w (w.alloc (.cells #[.int .i64 (i : Int), .int .i64 (j : Int)] 27)) := ba (b0 w) _
  have ra := ha.a1 (.cells #[.int .i64 (i : Int), .int .i64 (j : Int)] 27)
  obtain ⟨W, hW⟩ : ∃ W, W = w.alloc (.cells #[.int .i64 (i : Int), .int .i64 (j : Int)] 27) := ⟨_, rfl⟩
  have k2 : W.cell? ⟨w.heap.size, 0, none⟩ = some (.int .i64 (i : Int)) := by rw [hW]; exact cell_new rfl rfl
  have k3 : W.cell? ⟨w.heap.size, 1, none⟩ = some (.int .i64 (j : Int)) := by rw [hW]; exact cell_new rfl rfl
  rw [← hW] at T0 ra
  have HW := Lib.hid hW
  clear hW hr hm
  go_enter Tryz.func42, Tryz.ntmps42
  go_wp2
  rw [← HW.out]
  go_loopw [6, 17] (fun _ q wr => AIn ps i j W wr q) (fun _ q _ => ps.length - (intOf q).toNat)
  case atStart => exact ⟨0, Nat.zero_le _, rfl, rfl, b0 _⟩
  case round =>
    obtain ⟨wo, rfl⟩ : ∃ wo : World, wo = wr := ⟨_, rfl⟩
    obtain ⟨k, hk, rfl, hno, hbw⟩ := hrel
    have HNO := Lib.hid hno
    clear hno
    by_cases hlt : k < ps.length
    · obtain ⟨b, o, rfl, _, hc⟩ := ra.at_ hlt
      have d1 := cell_later hbw (hc _ _ (prs_fst ps k hlt))
      have d2 := cell_later hbw (hc _ _ (prs_snd ps k hlt))
      rw [← Nat.add_assoc] at d2
      have HIN := Lib.hid (@fld_out ps i j k hlt)
      have HSU := Lib.hid (fun h => any_take_succ (p := fun p => !insideB p.1 (i : Int) ((j : Int) - 1)) hlt HNO.out h)
      obtain ⟨pc, hpc⟩ : ∃ pc, pc = ps[k].1 := ⟨_, rfl⟩
      obtain ⟨m, hm⟩ : ∃ m, m = ps[k].2 := ⟨_, rfl⟩
      rw [← hpc] at d1 HIN HSU
      rw [← hm] at d2
      have i1 : (k : Int) < (ps.length : Int) := by omega
      have e2 := cell_alloc (cell_later hbw k2) (.cells #[.int .i64 pc, .int .i64 m] 76)
      have e3 := cell_alloc (cell_later hbw k3) (.cells #[.int .i64 pc, .int .i64 m] 76)
      have TB : Below W.heap.size W (wo.alloc (.cells #[.int .i64 pc, .int .i64 m] 76)) := ba hbw _
      clear hc hpc hm
      rcases Bool.eq_false_or_eq_true (insideB pc (i : Int) ((j : Int) - 1)) with hp | hp
      · have HN := Lib.hid (HSU.out (by rw [hp]; rfl))
        go_wp2_with fail
        refine (inside_any _ _ _ _).mono ?_; rintro e w1 ⟨rfl, rfl⟩
        go_wp2
        go_roundw
        case rel =>
          have P : AIn ps i j W (wo.alloc (.cells #[.int .i64 pc, .int .i64 m] 76)) (.int .i64 ((k : Int) + 1)) := ⟨k + 1, by omega, by go_num, HN.out, TB⟩
          first | exact P | exact ⟨_, P, rfl⟩ | exact ⟨_, _, P, rfl, rfl⟩ | exact ⟨_, _, _, P, rfl, rfl, rfl⟩ | exact ⟨_, _, _, _, P, rfl, rfl, rfl, rfl⟩ | exact ⟨_, _, _, _, _, P, rfl, rfl, rfl, rfl, rfl⟩ | exact ⟨_, _, _, _, _, _, P, rfl, rfl, rfl, rfl, rfl, rfl⟩ | exact ⟨_, _, _, _, _, _, _, P, rfl, rfl, rfl, rfl, rfl, rfl, rfl⟩ | exact ⟨_, _, _, _, _, _, _, _, P, rfl, rfl, rfl, rfl, rfl, rfl, rfl, rfl⟩
        case measure => simp [intOf]; omega
      · have HN := Lib.hid (HIN.out hp)
        go_wp2_with fail
        refine (inside_any _ _ _ _).mono ?_; rintro e w1 ⟨rfl, rfl⟩
        go_wp2
        go_ret
        exact ⟨ret_bool (by rw [HR.out, HN.out]), bs T0 TB⟩
    · have HIN := Lib.hid (any_take_all hlt HNO.out)
      have k2' := cell_later hbw k2
      go_wp2
      go_loopw [7, 8, 9, 10, 11, 12, 13, 14, 41, 52] (fun q _ _ _ _ _ _ _ _ _ wr => AFl ps i j W wr q) (fun q _ _ _ _ _ _ _ _ _ _ => j - (intOf q).toNat)
      case atStart => exact ⟨0, by omega, rfl, rfl, hbw⟩
      case round =>
        obtain ⟨wp, rfl⟩ : ∃ wp : World, wp = wr := ⟨_, rfl⟩
        obtain ⟨n, hn, rfl, hf, hbn⟩ := hrel
        have HF := Lib.hid hf
        have k3' := cell_later hbn k3
        clear hf
        by_cases hlt2 : i + n < j
        · obtain ⟨d, hd⟩ : ∃ d : Nat, d = i + n := ⟨_, rfl⟩
          have HD := Lib.hid hd
          rw [← hd] at hlt2 ⊢
          have hd20 : d < 20 := by omega
          clear hd
          go_wp2
          go_loopw [8, 9, 10, 41] (fun v _ _ q wr => ALt ps d W wr v q) (fun _ _ _ q _ => ps.length - (intOf q).toNat)
          case atStart => exact ⟨0, Nat.zero_le _, rfl, rfl, hbn⟩
          case round =>
            obtain ⟨wq, rfl⟩ : ∃ wq : World, wq = wr := ⟨_, rfl⟩
            obtain ⟨k1, hk1, rfl, rfl, hbq⟩ := hrel
            by_cases hlt3 : k1 < ps.length
            · obtain ⟨b, o, rfl, _, hc⟩ := ra.at_ hlt3
              have d1 := cell_later hbq (hc _ _ (prs_fst ps k1 hlt3))
              have d2 := cell_later hbq (hc _ _ (prs_snd ps k1 hlt3))
              rw [← Nat.add_assoc] at d2
              have HY := Lib.hid (@latN_yes ps (d : Int) k1 hlt3)
              have HNn := Lib.hid (@latN_no ps (d : Int) k1 hlt3)
              obtain ⟨pc, hpc⟩ : ∃ pc, pc = ps[k1].1 := ⟨_, rfl⟩
              obtain ⟨m, hm⟩ : ∃ m, m = ps[k1].2 := ⟨_, rfl⟩
              rw [← hpc] at d1 HY HNn
              rw [← hm] at d2
              have i1 : (k1 : Int) < (ps.length : Int) := by omega
              have TB : Below W.heap.size W (wq.alloc (.cells #[.int .i64 pc, .int .i64 m] 76)) := ba hbq _
              obtain ⟨la, hla⟩ : ∃ la, la = latN ps (d : Int) k1 := ⟨_, rfl⟩
              have HLA := Lib.hid hla
              rw [← hla]
              clear hc hpc hm hla
              by_cases hp : (d : Int) < pc
              · have HN := Lib.hid (HY.out hp)
                go_wp2
                go_roundw
                case rel =>
                  have P : ALt ps d W (wq.alloc (.cells #[.int .i64 pc, .int .i64 m] 76)) (.int .i64 (k1 : Int)) (.int .i64 ((k1 : Int) + 1)) := ⟨k1 + 1, by omega, by go_num, by rw [HN.out], TB⟩
                  first | exact P | exact ⟨_, P, rfl⟩ | exact ⟨_, _, P, rfl, rfl⟩ | exact ⟨_, _, _, P, rfl, rfl, rfl⟩ | exact ⟨_, _, _, _, P, rfl, rfl, rfl, rfl⟩ | exact ⟨_, _, _, _, _, P, rfl, rfl, rfl, rfl, rfl⟩ | exact ⟨_, _, _, _, _, _, P, rfl, rfl, rfl, rfl, rfl, rfl⟩ | exact ⟨_, _, _, _, _, _, _, P, rfl, rfl, rfl, rfl, rfl, rfl, rfl⟩ | exact ⟨_, _, _, _, _, _, _, _, P, rfl, rfl, rfl, rfl, rfl, rfl, rfl, rfl⟩
                case measure => simp [intOf]; omega
              · have HN := Lib.hid (HNn.out hp)
                go_wp2
                go_roundw
                case rel =>
                  have P : ALt ps d W (wq.alloc (.cells #[.int .i64 pc, .int .i64 m] 76)) (.int .i64 la) (.int .i64 ((k1 : Int) + 1)) := ⟨k1 + 1, by omega, by go_num, by rw [HN.out, HLA.out], TB⟩
                  first | exact P | exact ⟨_, P, rfl⟩ | exact ⟨_, _, P, rfl, rfl⟩ | exact ⟨_, _, _, P, rfl, rfl, rfl⟩ | exact ⟨_, _, _, _, P, rfl, rfl, rfl, rfl⟩ | exact ⟨_, _, _, _, _, P, rfl, rfl, rfl, rfl, rfl⟩ | exact ⟨_, _, _, _, _, _, P, rfl, rfl, rfl, rfl, rfl, rfl⟩ | exact ⟨_, _, _, _, _, _, _, P, rfl, rfl, rfl, rfl, rfl, rfl, rfl⟩ | exact ⟨_, _, _, _, _, _, _, _, P, rfl, rfl, rfl, rfl, rfl, rfl, rfl, rfl⟩
                case measure => simp [intOf]; omega
            · have hkk : k1 = ps.length := by omega
              have hlr := lat_range ps (d : Int) k1 hk1 hl
              obtain ⟨la, hla⟩ : ∃ la, la = latN ps (d : Int) k1 := ⟨_, rfl⟩
              have HLA := Lib.hid (show la = latN ps (d : Int) ps.length by rw [hla, hkk])
              rw [← hla] at hlr ⊢
              clear hla hkk
              go_wp2
              go_loopw [11, 12, 13, 14, 52] (fun _ _ _ _ q wr => ARow ps d W wr q) (fun _ _ _ _ q _ => 40 - (intOf q).toNat)
              case atStart => exact ⟨0, by omega, rfl, rfl, hbq⟩
              case round =>
                obtain ⟨ws, rfl⟩ : ∃ ws : World, ws = wr := ⟨_, rfl⟩
                obtain ⟨x, hx, rfl, hco, hbs⟩ := hrel
                have HCO := Lib.hid hco
                clear hco
                by_cases hx40 : x < 40
                · have i1 : (x : Int) < 40 := by omega
                  go_wp2
                  go_loopw [12, 13, 14] (fun q _ _ wr => APr ps d x W wr q) (fun q _ _ _ => 40 - (intOf q).toNat)
                  case atStart => exact ⟨x + 1, by omega, by omega, by go_num, rowB_start _ _ _, hbs⟩
                  case round =>
                    obtain ⟨wt, rfl⟩ : ∃ wt : World, wt = wr := ⟨_, rfl⟩
                    obtain ⟨y, hxy, hy, rfl, hro, hbt⟩ := hrel
                    have HRO := Lib.hid hro
                    clear hro
                    by_cases hy40 : y < 40
                    · have i2 : (y : Int) < 40 := by omega
                      have hcx := char_code x hx40
                      have hcy := char_code y hy40
                      have hcx : 0 ≤ codeV (charL[x]'hx40).toNat ∧ codeV (charL[x]'hx40).toNat ≤ 4095 := ⟨hcx.1, hcx.2.1⟩
                      have hcy : 0 ≤ codeV (charL[y]'hy40).toNat ∧ codeV (charL[y]'hy40).toNat ≤ 4095 := ⟨hcy.1, hcy.2.1⟩
                      have HPD := Lib.hid (fun (z : Int) (b : Bool) h1 h2 => @pairB_dec ps (d : Int) x y hx40 hy40 HM.out z la b h1 h2 HLA.out)
                      obtain ⟨vx, hvx⟩ : ∃ v, v = codeV (charL[x]'hx40).toNat := ⟨_, rfl⟩
                      obtain ⟨vy, hvy⟩ : ∃ v, v = codeV (charL[y]'hy40).toNat := ⟨_, rfl⟩
                      rw [← hvx] at hcx HPD
                      rw [← hvy] at hcy HPD
                      have HVX := Lib.hid hvx
                      have HVY := Lib.hid hvy
                      have hdl := decN_lt ps (d : Int) vx vy ps.length
                      obtain ⟨z, hz⟩ : ∃ z, z = (decN ps (d : Int) vx vy ps.length).1 := ⟨_, rfl⟩
                      obtain ⟨f, hf⟩ : ∃ f, f = (decN ps (d : Int) vx vy ps.length).2 := ⟨_, rfl⟩
                      have HZ := Lib.hid hz
                      have HFI := Lib.hid hf
                      have HP := Lib.hid (HPD.out z f HZ.out HFI.out)
                      have rt := ra.up hbt
                      rw [← hz] at hdl
                      clear hvx hvy hz hf
                      by_cases q1 : z < 0
                      · have HN := Lib.hid (show pairB ps (d : Int) x y = false by rw [HP.out]; simp; omega)
                        clear HPD HP
                        go_wp2_with fail
                        refine wp_region_later (by kernel_rfl) (by kernel_rfl) ?_
                        repeat (go_big_quiet_step (fail))
                        go_big_quiet_step ((go_at_call 75; exact lat_pure (codeOf_z x hx40 vx HVX.out _)))
                        repeat (go_big_quiet_step (fail))
                        go_big_quiet_step ((go_at_call 75; exact lat_pure (codeOf_z y hy40 vy HVY.out _)))
                        repeat (go_big_quiet_step (fail))
                        go_big_quiet_step ((go_at_call 100; exact lat_call (decides_z _ _ ps (d : Int) vx vy z f _ (lat_rd _ rt) hl hcx hcy HZ.out HFI.out)))
                        repeat (go_big_quiet_step (fail))
                        refine wpQuiet_nil ?_
                        intro w4 hb4
                        have TT := bs hbt hb4
                        clear hbt hb4 rt
                        go_wp2
                        go_ret
                        exact ⟨ret_bool (by rw [HR.out]; exact (fld_no (i := i) (n := n) (by have := HD.out; omega) hx40 hxy hy40 (by rw [← HD.out]; exact HN.out)).symm), bs T0 TT⟩
                      · rcases Bool.eq_false_or_eq_true f with q2 | q2
                        · by_cases q3 : z < la
                          · have HN := Lib.hid (show pairB ps (d : Int) x y = false by rw [HP.out]; simp; omega)
                            have HFT := Lib.hid (q2.symm.trans HFI.out)
                            clear HPD HP q2
                            go_wp2_with fail
                            refine wp_region_later (by kernel_rfl) (by kernel_rfl) ?_
                            repeat (go_big_quiet_step (fail))
                            go_big_quiet_step ((go_at_call 75; exact lat_pure (codeOf_z x hx40 vx HVX.out _)))
                            repeat (go_big_quiet_step (fail))
                            go_big_quiet_step ((go_at_call 75; exact lat_pure (codeOf_z y hy40 vy HVY.out _)))
                            repeat (go_big_quiet_step (fail))
                            go_big_quiet_step ((go_at_call 100; exact lat_call (decides_z _ _ ps (d : Int) vx vy z true _ (lat_rd _ rt) hl hcx hcy HZ.out HFT.out)))
                            repeat (go_big_quiet_step (fail))
                            refine wpQuiet_nil ?_
                            intro w4 hb4
                            have TT := bs hbt hb4
                            clear hbt hb4 rt
                            go_wp2
                            go_ret
                            exact ⟨ret_bool (by rw [HR.out]; exact (fld_no (i := i) (n := n) (by have := HD.out; omega) hx40 hxy hy40 (by rw [← HD.out]; exact HN.out)).symm), bs T0 TT⟩
                          · have HN := Lib.hid (rowB_yes HRO.out (show pairB ps (d : Int) x y = true by rw [HP.out, q2]; simp; omega))
                            have HFT := Lib.hid (q2.symm.trans HFI.out)
                            clear HPD HP q2
                            go_wp2_with fail
                            refine wp_region_later (by kernel_rfl) (by kernel_rfl) ?_
                            repeat (go_big_quiet_step (fail))
                            go_big_quiet_step ((go_at_call 75; exact lat_pure (codeOf_z x hx40 vx HVX.out _)))
                            repeat (go_big_quiet_step (fail))
                            go_big_quiet_step ((go_at_call 75; exact lat_pure (codeOf_z y hy40 vy HVY.out _)))
                            repeat (go_big_quiet_step (fail))
                            go_big_quiet_step ((go_at_call 100; exact lat_call (decides_z _ _ ps (d : Int) vx vy z true _ (lat_rd _ rt) hl hcx hcy HZ.out HFT.out)))
                            repeat (go_big_quiet_step (fail))
                            refine wpQuiet_nil ?_
                            intro w4 hb4
                            have TT := bs hbt hb4
                            clear hbt hb4 rt
                            go_wp2
                            go_roundw
                            case rel =>
                              have P : APr ps d x W w4 (.int .i64 ((y : Int) + 1)) := ⟨y + 1, by omega, by omega, by go_num, HN.out, TT⟩
                              first | exact P | exact ⟨_, P, rfl⟩ | exact ⟨_, _, P, rfl, rfl⟩ | exact ⟨_, _, _, P, rfl, rfl, rfl⟩ | exact ⟨_, _, _, _, P, rfl, rfl, rfl, rfl⟩ | exact ⟨_, _, _, _, _, P, rfl, rfl, rfl, rfl, rfl⟩ | exact ⟨_, _, _, _, _, _, P, rfl, rfl, rfl, rfl, rfl, rfl⟩ | exact ⟨_, _, _, _, _, _, _, P, rfl, rfl, rfl, rfl, rfl, rfl, rfl⟩ | exact ⟨_, _, _, _, _, _, _, _, P, rfl, rfl, rfl, rfl, rfl, rfl, rfl, rfl⟩
                            case measure => simp [intOf]; omega
                        · have HN := Lib.hid (show pairB ps (d : Int) x y = false by rw [HP.out, q2]; simp)
                          have HFT := Lib.hid (q2.symm.trans HFI.out)
                          clear HPD HP q2
                          go_wp2_with fail
                          refine wp_region_later (by kernel_rfl) (by kernel_rfl) ?_
                          repeat (go_big_quiet_step (fail))
                          go_big_quiet_step ((go_at_call 75; exact lat_pure (codeOf_z x hx40 vx HVX.out _)))
                          repeat (go_big_quiet_step (fail))
                          go_big_quiet_step ((go_at_call 75; exact lat_pure (codeOf_z y hy40 vy HVY.out _)))
                          repeat (go_big_quiet_step (fail))
                          go_big_quiet_step ((go_at_call 100; exact lat_call (decides_z _ _ ps (d : Int) vx vy z false _ (lat_rd _ rt) hl hcx hcy HZ.out HFT.out)))
                          repeat (go_big_quiet_step (fail))
                          refine wpQuiet_nil ?_
                          intro w4 hb4
                          have TT := bs hbt hb4
                          clear hbt hb4 rt
                          go_wp2
                          go_ret
                          exact ⟨ret_bool (by rw [HR.out]; exact (fld_no (i := i) (n := n) (by have := HD.out; omega) hx40 hxy hy40 (by rw [← HD.out]; exact HN.out)).symm), bs T0 TT⟩
                    · have hye : y = 40 := by omega
                      have HN := Lib.hid (colB_yes HCO.out (by rw [← hye]; exact HRO.out))
                      go_wp2
                      go_roundw
                      case rel =>
                        have P : ARow ps d W wt (.int .i64 ((x : Int) + 1)) := ⟨x + 1, by omega, by go_num, HN.out, hbt⟩
                        first | exact P | exact ⟨_, P, rfl⟩ | exact ⟨_, _, P, rfl, rfl⟩ | exact ⟨_, _, _, P, rfl, rfl, rfl⟩ | exact ⟨_, _, _, _, P, rfl, rfl, rfl, rfl⟩ | exact ⟨_, _, _, _, _, P, rfl, rfl, rfl, rfl, rfl⟩ | exact ⟨_, _, _, _, _, _, P, rfl, rfl, rfl, rfl, rfl, rfl⟩ | exact ⟨_, _, _, _, _, _, _, P, rfl, rfl, rfl, rfl, rfl, rfl, rfl⟩ | exact ⟨_, _, _, _, _, _, _, _, P, rfl, rfl, rfl, rfl, rfl, rfl, rfl, rfl⟩
                      case measure => simp [intOf]; omega
                · have hxe : x = 40 := by omega
                  have HN := Lib.hid (fldB_next HF.out (by rw [← HD.out, ← hxe]; exact HCO.out))
                  go_wp2
                  go_roundw
                  case rel =>
                    have P : AFl ps i j W ws (.int .i64 ((d : Int) + 1)) := ⟨n + 1, by have := HD.out; omega, by have := HD.out; subst this; go_num, HN.out, hbs⟩
                    first | exact P | exact ⟨_, P, rfl⟩ | exact ⟨_, _, P, rfl, rfl⟩ | exact ⟨_, _, _, P, rfl, rfl, rfl⟩ | exact ⟨_, _, _, _, P, rfl, rfl, rfl, rfl⟩ | exact ⟨_, _, _, _, _, P, rfl, rfl, rfl, rfl, rfl⟩ | exact ⟨_, _, _, _, _, _, P, rfl, rfl, rfl, rfl, rfl, rfl⟩ | exact ⟨_, _, _, _, _, _, _, P, rfl, rfl, rfl, rfl, rfl, rfl, rfl⟩ | exact ⟨_, _, _, _, _, _, _, _, P, rfl, rfl, rfl, rfl, rfl, rfl, rfl, rfl⟩
                  case measure => simp [intOf]; omega
        · have HN := Lib.hid (fld_yes (show i + n = j by omega) HF.out HIN.out)
          go_wp2
          go_ret
          exact ⟨ret_bool (by rw [HR.out, HN.out]), bs T0 hbn⟩
end Go.Proofs.YtmfoaggohlfflaaGreatDoor

/-! ### AlwaysSorts: the reference's loops, and the calls. -/
namespace Go.Proofs.YtmfoaggohlfflaaGreatDoor
open Go.RowKit

theorem l00In_z (n lo hi : Int) (b : Bool) (hb : b = insideB n lo hi) (w : World) :
    Calls Tryz.prog 77 #[.int .i64 n, .int .i64 lo, .int .i64 hi] w fun e w' => e = .returned (.bool b) ∧ w = w' := by
  subst hb
  exact l00In_any n lo hi w

theorem alwC_0 {ps : List (Int × Int)} {a b : Int} (h1 : fieldOk a b 20 = true) (h2 : passesOk 20 ps = true) : alwC ps a b = 0 := by unfold alwC; rw [if_pos h1, if_pos h2]
theorem alwC_p {ps : List (Int × Int)} {a b : Int} (h1 : fieldOk a b 20 = true) (h2 : passesOk 20 ps = false) : alwC ps a b = 2 := by unfold alwC; rw [if_pos h1, if_neg (by rw [h2]; decide)]
theorem alwC_f {ps : List (Int × Int)} {a b : Int} (h1 : fieldOk a b 20 = false) : alwC ps a b = 2 := by unfold alwC; rw [if_neg (by rw [h1]; decide)]
theorem alwR_0 {ps : List (Int × Int)} {a b : Int} (h : alwC ps a b = 0) : alwR ps a b = alwB ps a b := by unfold alwR; rw [if_pos h]
theorem alwR_1 {ps : List (Int × Int)} {a b : Int} (h : alwC ps a b = 2) : alwR ps a b = false := by unfold alwR; rw [if_neg (by rw [h]; decide)]
theorem passesOk_modes {ps : List (Int × Int)} (h : passesOk 20 ps = true) : ∀ p ∈ ps, p.2 = 1 ∨ p.2 = 2 := by
  intro p hp
  unfold passesOk at h
  rw [Bool.and_eq_true, List.all_eq_true] at h
  exact passOk_mode (h.2 p hp)
theorem ret_bi2 {p q : Bool} {a b : Int} (h : p = q) (k : a = b) : Ending.returned (.tuple #[.bool p, .int .i64 a]) = .returned (.tuple #[.bool q, .int .i64 b]) := by rw [h, k]
end Go.Proofs.YtmfoaggohlfflaaGreatDoor

/-! ### AlwaysSorts: the calls, in the program and in the reference. -/
namespace Go.Proofs.YtmfoaggohlfflaaGreatDoor
open Go.RowKit

theorem fld_nat {a b : Int} (h : fieldOk a b 20 = true) : ∃ i j : Nat, a = (i : Int) ∧ b = (j : Int) ∧ i < j ∧ j ≤ 20 := by
  have h1 := fieldOk_true h
  exact ⟨a.toNat, b.toNat, by omega, by omega, by omega, by omega⟩

set_option maxHeartbeats 2000000 in
theorem AlwaysSorts_any (a b : Int) (A : Option Addr) (c : Nat) (ps : List (Int × Int)) (w : World) (ha : Rd w w.heap.size 2 A ps.length (prs ps)) (hl : ps.length ≤ 1048576) :
    Calls Tryz.prog 9 #[.agg #[.int .i64 a, .int .i64 b], .slice A ps.length c] w fun e w' => e = .returned (.tuple #[.bool (alwR ps a b), .int .i64 (alwC ps a b)]) ∧ Below w.heap.size w w' := by
  have T0 : Below w.heap.size w (w.alloc (.cells #[.int .i64 a, .int .i64 b] 27)) := ba (b0 w) _
  have ra := ha.a1 (.cells #[.int .i64 a, .int .i64 b] 27)
  have p0 : (w.alloc (.cells #[.int .i64 a, .int .i64 b] 27)).cell? ⟨w.heap.size, 0, none⟩ = some (.int .i64 a) := cell_new rfl rfl
  have p1 : (w.alloc (.cells #[.int .i64 a, .int .i64 b] 27)).cell? ⟨w.heap.size, 1, none⟩ = some (.int .i64 b) := cell_new rfl rfl
  rcases Bool.eq_false_or_eq_true (fieldOk a b 20) with hf | hf
  · rcases Bool.eq_false_or_eq_true (passesOk 20 ps) with hp | hp
    · have HC := Lib.hid (alwC_0 hf hp)
      have HR := Lib.hid (alwR_0 HC.out)
      have HM := Lib.hid (passesOk_modes hp)
      have HF := Lib.hid hf
      have HP := Lib.hid hp
      obtain ⟨i, j, rfl, rfl, hij, hj⟩ := fld_nat hf
      clear hf hp
      go_enter Tryz.func9, Tryz.ntmps9
      go_wp2_with fail
      refine (isField_any _ _ _ _).mono ?_; rw [HF.out]; rintro e w1 ⟨rfl, hb1⟩
      have q0 := cell_later hb1 p0
      have q1 := cell_later hb1 p1
      go_wp2_with fail
      refine (arePasses_any _ _ ps _ _ (ra.up hb1) hl (by omega) (by omega)).mono ?_; rw [HP.out]; rintro e w2 ⟨rfl, hb2⟩
      have q2 := cell_later hb2 q0
      have q3 := cell_later hb2 q1
      go_wp2_with fail
      refine (alwaysSorts_any _ _ ps i j (alwR ps (i : Int) (j : Int)) _ ((ra.up hb1).up hb2) hl hij hj HM.out HR.out).mono ?_; rintro e w3 ⟨rfl, hb3⟩
      go_wp2
      go_ret2
      exact ⟨ret_bi2 rfl HC.out.symm, bs (bs (bs T0 hb1) hb2) hb3⟩
    · have HC := Lib.hid (alwC_p hf hp)
      have HR := Lib.hid (alwR_1 HC.out)
      have HF := Lib.hid hf
      have HP := Lib.hid hp
      clear hf hp
      go_enter Tryz.func9, Tryz.ntmps9
      go_wp2_with fail
      refine (isField_any _ _ _ _).mono ?_; rw [HF.out]; rintro e w1 ⟨rfl, hb1⟩
      go_wp2_with fail
      refine (arePasses_any _ _ ps _ _ (ra.up hb1) hl (by omega) (by omega)).mono ?_; rw [HP.out]; rintro e w2 ⟨rfl, hb2⟩
      go_wp2
      go_ret2
      exact ⟨ret_bi2 HR.out.symm HC.out.symm, bs (bs T0 hb1) hb2⟩
  · have HC := Lib.hid (alwC_f (ps := ps) hf)
    have HR := Lib.hid (alwR_1 HC.out)
    have HF := Lib.hid hf
    clear hf
    go_enter Tryz.func9, Tryz.ntmps9
    go_wp2_with fail
    refine (isField_any _ _ _ _).mono ?_; rw [HF.out]; rintro e w1 ⟨rfl, hb1⟩
    go_wp2
    go_ret2
    exact ⟨ret_bi2 HR.out.symm HC.out.symm, bs T0 hb1⟩

end Go.Proofs.YtmfoaggohlfflaaGreatDoor
