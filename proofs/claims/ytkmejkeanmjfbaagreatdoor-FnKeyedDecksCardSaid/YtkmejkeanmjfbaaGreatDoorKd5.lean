/- Cards: validity, columns, copies, blank cards; in the program and in the reference. -/
import Derived.Test.YtkmejkeanmjfbaaGreatDoorKd2
import Derived.Test.YtkmejkeanmjfbaaGreatDoorKd4
/-! ### CardFns -/
namespace Go.Proofs.YtkmejkeanmjfbaaGreatDoor
open Go.RowKit

def holeB (m : Int) : Bool := insideB m 0 4095
def cardOk (xs : List Int) : Bool := insideB (xs.length : Int) 1 20 && xs.all holeB
theorem cardOk_len {xs : List Int} (h : cardOk xs = true) : 1 ≤ xs.length ∧ xs.length ≤ 20 := by
  simp only [cardOk, Bool.and_eq_true] at h
  have := insideB_true h.1
  omega
theorem cardOk_hole {xs : List Int} (h : cardOk xs = true) {k : Nat} (hk : k < xs.length) : 0 ≤ xs[k] ∧ xs[k] ≤ 4095 := by
  simp only [cardOk, Bool.and_eq_true] at h
  exact insideB_true (List.all_eq_true.1 h.2 _ (List.getElem_mem hk))
theorem any_not_allI {α : Type} (p : α → Bool) (l : List α) : (l.any fun x => !p x) = !l.all p := by
  induction l with
  | nil => rfl
  | cons a l ih => simp [ih]

set_option maxHeartbeats 1000000 in
theorem l02Ok_any (b0_ o0_ : Nat) (A : Option Addr) (c : Nat) (xs : List Int) (w : World) (hp : w.cell? ⟨b0_, o0_, none⟩ = some (.slice A xs.length c)) (ha : Rd w w.heap.size 1 A xs.length (ints xs)) (hl : xs.length ≤ 1048576) :
    Calls Tryz.prog 48 #[.pointer (some ⟨b0_, o0_, none⟩)] w fun e w' => e = .returned (.bool (cardOk xs)) ∧ Below w.heap.size w w' := by
  go_enter Tryz.func48, Tryz.ntmps48
  go_wp2
  go_loopw [3] (fun i wr => ∃ k : Nat, k ≤ xs.length ∧ i = .int .i64 k ∧ (xs.take k).any (fun m => !holeB m) = false ∧ Below w.heap.size w wr) (fun i _ => xs.length - (intOf i).toNat)
  case atStart => exact ⟨0, Nat.zero_le _, rfl, rfl, b0 _⟩
  case round =>
    obtain ⟨k, hk, rfl, hno, hbw⟩ := hrel
    have HNO := Lib.hid hno
    clear hno
    replace hp := cell_later hbw hp
    by_cases hlt : k < xs.length
    · obtain ⟨b, off, hA, hbb, hcell⟩ := ha.at_ hlt
      subst hA
      have h1 := (hbw.cell (p := ⟨b, off + k, none⟩) hbb).trans (hcell _ _ (ints_get xs k hlt))
      clear hcell ha
      rcases Bool.eq_false_or_eq_true (insideB xs[k] 0 4095) with hh | hh
      · have HP := Lib.hid (any_take_succ (p := fun m => !holeB m) hlt HNO.out (by show (!insideB xs[k] 0 4095) = false; rw [hh]; rfl))
        go_wp2_with fail
        refine (l00In_any _ _ _ _).mono ?_; rintro e w1 ⟨rfl, rfl⟩
        go_wp2
        go_roundw
        case rel => exact ⟨k + 1, by omega, by go_num, HP.out, hbw⟩
        case measure => simp [intOf]; omega
      · have HP := Lib.hid (show cardOk xs = false by
          have : xs.all holeB = false := List.all_eq_false.2 ⟨xs[k], List.getElem_mem hlt, by show ¬ insideB xs[k] 0 4095 = true; rw [hh]; simp⟩
          simp [cardOk, this])
        go_wp2_with fail
        refine (l00In_any _ _ _ _).mono ?_; rintro e w1 ⟨rfl, rfl⟩
        go_wp2
        go_ret
        exact ⟨ret_bool HP.out.symm, hbw⟩
    · have HP := Lib.hid (show cardOk xs = insideB (xs.length : Int) 1 20 by
        have h1 := any_take_all hlt HNO.out
        rw [any_not_allI] at h1
        simp only [Bool.not_eq_false'] at h1
        simp [cardOk, h1])
      go_wp2_with fail
      refine (l00In_any _ _ _ _).mono ?_; rintro e w1 ⟨rfl, rfl⟩
      go_wp2
      go_ret
      exact ⟨ret_bool HP.out.symm, hbw⟩

theorem sizeInts_any (A : Option Addr) (n c : Nat) (w : World) (_hn : n ≤ 1048576) :
    Calls Tryz.prog 83 #[.slice A n c] w fun e w' => e = .returned (.int .i64 n) ∧ w = w' := by
  go_enter Tryz.func83, Tryz.ntmps83
  go_wp2
  go_ret
  exact ⟨rfl, rfl⟩
theorem columns_any (A : Option Addr) (n c : Nat) (w : World) (hn : n ≤ 1048576) :
    Calls Tryz.prog 44 #[.agg #[.slice A n c]] w fun e w' => e = .returned (.int .i64 n) ∧ Below w.heap.size w w' := by
  go_enter Tryz.func44, Tryz.ntmps44
  go_wp2_with fail
  refine (sizeInts_any _ _ _ _ hn).mono ?_; rintro e w1 ⟨rfl, rfl⟩
  go_wp2
  go_ret
  exact ⟨rfl, ba (b0 _) _⟩
theorem ValidCard1_any (m : Int) (w : World) :
    Calls Tryz.prog 82 #[.int .i64 m] w fun e w' => e = .returned (.bool (!holeB m)) ∧ Below w.heap.size w w' := by
  go_enter Tryz.func82, Tryz.ntmps82
  go_wp2_with fail
  refine (inside_any _ _ _ _).mono ?_; rintro e w1 ⟨rfl, rfl⟩
  go_wp2
  go_ret
  exact ⟨rfl, b0 _⟩
set_option maxHeartbeats 1000000 in
theorem ValidCard_any (A : Option Addr) (c : Nat) (xs : List Int) (w : World) (ha : Rd w w.heap.size 1 A xs.length (ints xs)) (hl : xs.length ≤ 1048576) :
    Calls Tryz.prog 42 #[.agg #[.slice A xs.length c]] w fun e w' => e = .returned (.bool (cardOk xs)) ∧ Below w.heap.size w w' := by
  have hv := Lib.hid (show cardOk xs = (insideB (xs.length : Int) 1 20 && xs.all holeB) from rfl)
  have hall := Lib.hid (any_not_allI holeB xs)
  rcases Bool.eq_false_or_eq_true (insideB (xs.length : Int) 1 20) with h1 | h1
  · go_enter Tryz.func42, Tryz.ntmps42
    go_wp2_with fail
    refine (columns_any _ _ _ _ hl).mono ?_; rintro e w1 ⟨rfl, hb1⟩
    have k1 : w1.cell? ⟨w.heap.size, 0, none⟩ = some (.slice A xs.length c) := cell_later hb1 (by simp)
    go_wp2_with fail
    refine (inside_any _ _ _ _).mono ?_; rintro e w2 ⟨rfl, rfl⟩
    have hcon := Lib.hid (ContainsFuncInts_any A c xs 82 #[] (fun m => !holeB m) w1 ((ha.a1 _).up hb1) hl Tryz.call82
      (fun p _ w' _ => by rw [Array.append_empty]; exact ValidCard1_any p w'))
    go_wp2_with fail
    refine hcon.out.mono ?_; rintro e w2 ⟨rfl, hb2⟩
    go_wp2
    go_ret
    exact ⟨ret_bool (by rw [hv.out, h1, hall.out]; simp), bs (bs (ba (b0 _) _) hb1) hb2⟩
  · go_enter Tryz.func42, Tryz.ntmps42
    go_wp2_with fail
    refine (columns_any _ _ _ _ hl).mono ?_; rintro e w1 ⟨rfl, hb1⟩
    go_wp2_with fail
    refine (inside_any _ _ _ _).mono ?_; rintro e w2 ⟨rfl, rfl⟩
    go_wp2
    go_ret
    exact ⟨ret_bool (by rw [hv.out, h1]; rfl), bs (ba (b0 _) _) hb1⟩

theorem copyInts_any (A : Option Addr) (c : Nat) (xs : List Int) (w : World) (ha : Rd w w.heap.size 1 A xs.length (ints xs)) (hl : xs.length ≤ 1048576) :
    Calls Tryz.prog 85 #[.slice A xs.length c] w fun e w' => ∃ B d, e = .returned (.slice B xs.length d) ∧ w'.ownsRow w.heap.size 2 1 (.slice B xs.length d) xs.length (ints xs) ∧ Below w.heap.size w w' := by
  obtain ⟨i0, hi, hz0, hz1, hz2⟩ := info_parts info_i64
  go_enter Tryz.func85, Tryz.ntmps85
  go_wp2_with (at_builtin; refine wpList_aps rfl (.tmp 3) (.tmp 4) 24 rfl w.heap.size 2 i0 _ 1 8 Tryz.underlying24 hi hz0 hz1 hz2 rfl (by omega) _ 0 0 [] _ rfl (own_lit w #[] 0 rfl (Nat.le_refl _) (by omega) rfl) _ A xs.length c (ints xs) rfl (ha.alloc (Nat.le_refl _) _) (ints_one xs) (by omega) (by omega) (by simp) ?_; intro B d w1 hown1 hb1 _)
  go_ret
  rw [Nat.zero_add] at hown1
  exact ⟨B, d, rfl, hown1, (ba (b0 _) _).trans hb1⟩
theorem l00Own_any (A : Option Addr) (c : Nat) (xs : List Int) (w : World) (ha : Rd w w.heap.size 1 A xs.length (ints xs)) (hl : xs.length ≤ 1048576) :
    Calls Tryz.prog 87 #[.slice A xs.length c] w fun e w' => ∃ B d, e = .returned (.slice B xs.length d) ∧ w'.ownsRow w.heap.size 2 1 (.slice B xs.length d) xs.length (ints xs) ∧ Below w.heap.size w w' := by
  obtain ⟨i0, hi, hz0, hz1, hz2⟩ := info_parts info_i64
  go_enter Tryz.func87, Tryz.ntmps87
  go_wp2_with (at_builtin; refine wpList_aps rfl (.tmp 3) (.tmp 4) 24 rfl w.heap.size 2 i0 _ 1 8 Tryz.underlying24 hi hz0 hz1 hz2 rfl (by omega) _ 0 0 [] _ rfl (own_lit w #[] 0 rfl (Nat.le_refl _) (by omega) rfl) _ A xs.length c (ints xs) rfl (ha.alloc (Nat.le_refl _) _) (ints_one xs) (by omega) (by omega) (by simp) ?_; intro B d w1 hown1 hb1 _)
  go_ret
  rw [Nat.zero_add] at hown1
  exact ⟨B, d, rfl, hown1, (ba (b0 _) _).trans hb1⟩

theorem newCard_any (A : Option Addr) (c : Nat) (xs : List Int) (w : World) (ha : Rd w w.heap.size 1 A xs.length (ints xs)) (hl : xs.length ≤ 1048576) :
    Calls Tryz.prog 46 #[.agg #[.slice A xs.length c]] w fun e w' => ∃ B d, e = .returned (.agg #[.slice B xs.length d]) ∧ w'.ownsRow w.heap.size 2 1 (.slice B xs.length d) xs.length (ints xs) ∧ Below w.heap.size w w' := by
  go_enter Tryz.func46, Tryz.ntmps46
  go_wp2_with fail
  refine (copyInts_any _ _ _ _ ((ha.a1 _).a1 _) hl).mono ?_; rintro e w1 ⟨B, d, rfl, ho, hb1⟩
  have k1 : w1.cell? ⟨w.heap.size + 1, 0, none⟩ = some (.slice none 0 0) := cell_later hb1 (by simp)
  have f1 : w1.frozen? ⟨w.heap.size + 1, 0, none⟩ = false := (hb1.frozen (p := ⟨w.heap.size + 1, 0, none⟩) (by simp)).trans (by simp)
  go_wp2
  refine bodyPost_ret (v := .agg #[.slice B xs.length d]) (by simp [results, Tryz.results46, go_sem, k1]) rfl ⟨B, d, rfl, ?_, ?_⟩
  · exact own_base (own_below ho _ _ _ (by simp)) (by simp; omega)
  · exact bset (bs (ba (ba (b0 _) _) _) hb1) _ _ _ (by omega)

theorem l02Own_any (p q : Nat) (A : Option Addr) (c : Nat) (xs : List Int) (w : World) (hp : w.cell? ⟨p, q, none⟩ = some (.slice A xs.length c)) (ha : Rd w w.heap.size 1 A xs.length (ints xs)) (hl : xs.length ≤ 1048576) :
    Calls Tryz.prog 51 #[.pointer (some ⟨p, q, none⟩)] w fun e w' => ∃ B d, e = .returned (.agg #[.slice B xs.length d]) ∧ w'.ownsRow w.heap.size 2 1 (.slice B xs.length d) xs.length (ints xs) ∧ Below w.heap.size w w' := by
  have hlt := World.block_lt_of_cell? _ _ hp
  simp only at hlt
  have hp1 : (w.alloc (.cells #[.slice none 0 0] 26)).cell? ⟨p, q, none⟩ = some (.slice A xs.length c) := by rw [World.cell?_alloc_lt _ _ _ (by exact hlt), hp]
  go_enter Tryz.func51, Tryz.ntmps51
  go_wp2_with fail
  refine (l00Own_any _ _ _ _ (ha.a1 _) hl).mono ?_; rintro e w1 ⟨B, d, rfl, ho, hb1⟩
  have k1 : w1.cell? ⟨w.heap.size, 0, none⟩ = some (.slice none 0 0) := cell_later hb1 (by simp)
  have f1 : w1.frozen? ⟨w.heap.size, 0, none⟩ = false := (hb1.frozen (p := ⟨w.heap.size, 0, none⟩) (by simp)).trans (by simp)
  go_wp2
  refine bodyPost_ret (v := .agg #[.slice B xs.length d]) (by simp [results, Tryz.results51, go_sem, k1]) rfl ⟨B, d, rfl, ?_, ?_⟩
  · exact own_base (own_below ho _ _ _ (by simp)) (by simp)
  · exact bset (bs (ba (b0 _) _) hb1) _ _ _ (Nat.le_refl _)

theorem zeros_ints (n : Nat) : (madeCells (Value.cells (.int .i64 0)) (n * 1)).toList = ints (List.replicate n 0) := by
  rw [Nat.mul_one]
  show (madeCells #[.int .i64 0] n).toList = _
  rw [toList_madeCells_one]
  simp [ints]
theorem blank_any (n : Nat) (w : World) (hn : n ≤ 1048576) :
    Calls Tryz.prog 74 #[.int .i64 n] w fun e w' => ∃ B, e = .returned (.agg #[.slice B n n]) ∧ w'.ownsRow w.heap.size 2 1 (.slice B n n) n (ints (List.replicate n 0)) ∧ Below w.heap.size w w' := by
  obtain ⟨i0, hi, hz0, hz1, hz2⟩ := info_parts info_i64
  go_enter Tryz.func74, Tryz.ntmps74
  go_wp2_with (at_make; refine wpList_make_full _ rfl _ _ 24 rfl w.heap.size 2 i0 (.int .i64 0) 1 Tryz.underlying24 hi hz0 hz1 _ _ _ _ n rfl rfl rfl rfl (by rw [hz2]; omega) (by unfold maxLen; omega) (by simp) ?_; intro w1 hown1 hgrow1; have k1 : w1.cell? ⟨w.heap.size, 0, none⟩ = some (.slice none 0 0) := hgrow1.cell (a := ⟨w.heap.size, 0, none⟩) (by simp) (by simp); have f1 : w1.frozen? ⟨w.heap.size, 0, none⟩ = false := (hgrow1.frozen_far ⟨w.heap.size, 0, none⟩ (by simp) (by simp)).trans (by simp))
  rw [zeros_ints] at hown1
  simp only [World.size_alloc] at hown1
  refine bodyPost_ret (v := .agg #[.slice (some ⟨w.heap.size + 1, 0, none⟩) n n]) (by simp [results, Tryz.results74, go_sem, k1]) rfl ⟨_, rfl, ?_, ?_⟩
  · have hb : w1.ownsRow (w.heap.size + 1) 2 1 (.slice (some ⟨w.heap.size + 1, 0, none⟩) n n) n (ints (List.replicate n 0)) := by
      obtain ⟨h1, h2⟩ := hown1
      refine ⟨h1, ?_⟩
      rcases h2 with h2 | ⟨g, cap, cur, hv, hg, r⟩
      · exact .inl h2
      · refine .inr ⟨g, cap, cur, hv, ?_, r⟩
        injection hv with hv
        injection hv with hv
        injection hv with hv
        omega
    exact own_base (own_below hb _ _ _ (by omega)) (by omega)
  · exact bset ((ba (b0 w) _).grown hgrow1 (by simp) (by simp)) _ _ _ (Nat.le_refl _)

/-- The columns that are chosen. -/
def colsWhere (p : Nat → Bool) (n : Nat) : List Int := ((List.range n).filter p).map fun k : Nat => (k : Int)
theorem colsWhere_succ (p : Nat → Bool) (n : Nat) : colsWhere p (n + 1) = colsWhere p n ++ (if p n = true then [(n : Int)] else []) := by
  unfold colsWhere
  rw [List.range_succ, List.filter_append, List.map_append]
  congr 1
  cases h : p n <;> simp [h]
theorem colsWhere_yes {p : Nat → Bool} {n : Nat} (h : p n = true) : colsWhere p (n + 1) = colsWhere p n ++ [(n : Int)] := by rw [colsWhere_succ, if_pos h]
theorem colsWhere_no {p : Nat → Bool} {n : Nat} (h : p n = false) : colsWhere p (n + 1) = colsWhere p n := by rw [colsWhere_succ, if_neg (by simp [h]), List.append_nil]
theorem colsWhere_le (p : Nat → Bool) (n : Nat) : (colsWhere p n).length ≤ n := by
  have := List.length_filter_le p (List.range n)
  simp only [colsWhere, List.length_map, List.length_range] at this ⊢
  exact this
theorem colsWhere_congr {p q : Nat → Bool} {n : Nat} (h : ∀ k, k < n → p k = q k) : colsWhere p n = colsWhere q n := by
  unfold colsWhere
  congr 1
  exact List.filter_congr fun k hk => h k (List.mem_range.1 hk)

end Go.Proofs.YtkmejkeanmjfbaaGreatDoor
