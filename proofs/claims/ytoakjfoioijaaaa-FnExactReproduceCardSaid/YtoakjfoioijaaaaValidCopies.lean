/- ValidCopies in the program and in the reference. -/
import Derived.Test.YtoakjfoioijaaaaCopies
namespace Go.Proofs.Ytoakjfoioijaaaa
open Go.RowKit

def fitsB (f t : Int) (p : Int × Int) : Bool := decide (p.1 < f) && decide (p.2 < t)
def copiesOk (ps : List (Int × Int)) (f t : Int) : Bool := plainB ps && ps.all (fitsB f t)
def validB (ps : List (Int × Int)) (f t : Int) : Bool := insideB f 1 20 && (insideB t 1 20 && copiesOk ps f t)
theorem any_not_all' {α : Type} (p : α → Bool) (l : List α) : (l.any fun x => !p x) = !l.all p := by
  induction l with
  | nil => rfl
  | cons a l ih => simp [ih]

set_option maxHeartbeats 400000 in
theorem ValidCopies1_any (a b f t : Int) (bf bt : Nat) (w : World) (h1 : w.cell? ⟨bf, 0, none⟩ = some (.int .i64 f)) (h2 : w.cell? ⟨bt, 0, none⟩ = some (.int .i64 t)) :
    Calls Try.prog 118 #[.agg #[.int .i64 a, .int .i64 b], .pointer (some ⟨bf, 0, none⟩), .pointer (some ⟨bt, 0, none⟩)] w fun e w' => e = .returned (.bool (!fitsB f t (a, b))) ∧ Below w.heap.size w w' := by
  have l1 := World.block_lt_of_cell? _ _ h1
  have l2 := World.block_lt_of_cell? _ _ h2
  simp only at l1 l2
  have c1 : (w.alloc (.cells #[.int .i64 a, .int .i64 b] 92)).cell? ⟨bf, 0, none⟩ = some (.int .i64 f) := by rw [World.cell?_alloc_lt _ _ _ l1, h1]
  have c2 : (w.alloc (.cells #[.int .i64 a, .int .i64 b] 92)).cell? ⟨bt, 0, none⟩ = some (.int .i64 t) := by rw [World.cell?_alloc_lt _ _ _ l2, h2]
  by_cases ha : f ≤ a <;> by_cases hb : t ≤ b
  all_goals
    go_enter Try.func118, Try.ntmps118
    go_wp2
    go_ret
    exact ⟨ret_bool (by simp [fitsB]; omega), ba (b0 _) _⟩

set_option maxHeartbeats 1000000 in
theorem l10Ok_any (A : Option Addr) (c : Nat) (ps : List (Int × Int)) (f t : Int) (w : World) (ha : Rd w w.heap.size 2 A ps.length (prs ps)) (hl : ps.length ≤ 1048576) :
    Calls Try.prog 112 #[.slice A ps.length c, .int .i64 f, .int .i64 t] w fun e w' => e = .returned (.bool (copiesOk ps f t)) ∧ Below w.heap.size w w' := by
  rcases Bool.eq_false_or_eq_true (plainB ps) with hp | hp
  · go_enter Try.func112, Try.ntmps112
    go_wp2_with fail
    refine (l10Plain_any _ _ _ _ ha hl).mono ?_; rintro e w1 ⟨rfl, hb1⟩
    replace ha := ha.bs (Nat.le_refl _) hb1
    have z1 := hb1.size
    go_wp2
    go_loopw [7] (fun i wr => ∃ k : Nat, k ≤ ps.length ∧ i = .int .i64 k ∧ (ps.take k).any (fun p => !fitsB f t p) = false ∧ Below w1.heap.size w1 wr) (fun i _ => ps.length - (intOf i).toNat)
    case atStart => exact ⟨0, Nat.zero_le _, rfl, rfl, b0 _⟩
    case round =>
      obtain ⟨k, hk, rfl, hno, hbw⟩ := hrel
      have HNO := Lib.hid hno
      clear hno
      by_cases hlt : k < ps.length
      · obtain ⟨b, off, rfl, hbb, hc⟩ := ha.at_ hlt
        have h1 := (hbw.cell (p := ⟨b, off + k * 2, none⟩) (by simp only; omega)).trans (hc _ _ (prs_fst ps k hlt))
        have h2 := (hbw.cell (p := ⟨b, off + (k * 2 + 1), none⟩) (by simp only; omega)).trans (hc _ _ (prs_snd ps k hlt))
        rw [← Nat.add_assoc] at h2
        clear hc ha
        by_cases h3 : f ≤ ps[k].1
        · have HP := Lib.hid (show copiesOk ps f t = false by
            have : ps.all (fitsB f t) = false := List.all_eq_false.2 ⟨ps[k], List.getElem_mem hlt, by simp [fitsB]; omega⟩
            simp [copiesOk, this])
          go_wp2
          go_ret
          exact ⟨ret_bool HP.out.symm, bs hb1 hbw⟩
        · by_cases h4 : t ≤ ps[k].2
          · have HP := Lib.hid (show copiesOk ps f t = false by
              have : ps.all (fitsB f t) = false := List.all_eq_false.2 ⟨ps[k], List.getElem_mem hlt, by simp [fitsB]; omega⟩
              simp [copiesOk, this])
            go_wp2
            go_ret
            exact ⟨ret_bool HP.out.symm, bs hb1 hbw⟩
          · have HP := Lib.hid (any_take_succ (p := fun p => !fitsB f t p) hlt HNO.out (by simp [fitsB]; omega))
            go_wp2
            go_roundw
            case rel => exact ⟨k + 1, by omega, by go_num, HP.out, hbw⟩
            case measure => simp [intOf]; omega
      · have HP := Lib.hid (show copiesOk ps f t = true by
          have h1 := any_take_all hlt HNO.out
          rw [any_not_all'] at h1
          simp only [Bool.not_eq_false'] at h1
          simp [copiesOk, h1, hp])
        go_wp2
        go_ret
        exact ⟨ret_bool HP.out.symm, bs hb1 hbw⟩
  · have HP := Lib.hid (show copiesOk ps f t = false by simp [copiesOk, hp])
    go_enter Try.func112, Try.ntmps112
    go_wp2_with fail
    refine (l10Plain_any _ _ _ _ ha hl).mono ?_; rintro e w1 ⟨rfl, hb1⟩
    go_wp2
    go_ret
    exact ⟨ret_bool HP.out.symm, hb1⟩

set_option maxHeartbeats 1000000 in
theorem spValidCopies_any (A : Option Addr) (c : Nat) (ps : List (Int × Int)) (f t : Int) (w : World) (ha : Rd w w.heap.size 2 A ps.length (prs ps)) (hl : ps.length ≤ 1048576) :
    Calls Try.prog 65 #[.slice A ps.length c, .int .i64 f, .int .i64 t] w fun e w' => e = .returned (.bool (validB ps f t)) ∧ Below w.heap.size w w' := by
  have hv := Lib.hid (show validB ps f t = (insideB f 1 20 && (insideB t 1 20 && copiesOk ps f t)) from rfl)
  rcases Bool.eq_false_or_eq_true (insideB f 1 20) with h1 | h1
  · rcases Bool.eq_false_or_eq_true (insideB t 1 20) with h2 | h2
    · go_enter Try.func65, Try.ntmps65
      go_wp2_with fail
      refine (l00In_any _ _ _ _).mono ?_; rintro e w1 ⟨rfl, rfl⟩
      go_wp2_with fail
      refine (l00In_any _ _ _ _).mono ?_; rintro e w1 ⟨rfl, rfl⟩
      go_wp2_with fail
      refine (l10Ok_any _ _ _ _ _ _ ha hl).mono ?_; rintro e w1 ⟨rfl, hb1⟩
      go_wp2
      go_ret
      exact ⟨ret_bool (by rw [hv.out, h1, h2]; rfl), hb1⟩
    · go_enter Try.func65, Try.ntmps65
      go_wp2_with fail
      refine (l00In_any _ _ _ _).mono ?_; rintro e w1 ⟨rfl, rfl⟩
      go_wp2_with fail
      refine (l00In_any _ _ _ _).mono ?_; rintro e w1 ⟨rfl, rfl⟩
      go_wp2
      go_ret
      exact ⟨ret_bool (by rw [hv.out, h1, h2]; rfl), b0 _⟩
  · go_enter Try.func65, Try.ntmps65
    go_wp2_with fail
    refine (l00In_any _ _ _ _).mono ?_; rintro e w1 ⟨rfl, rfl⟩
    go_wp2
    go_ret
    exact ⟨ret_bool (by rw [hv.out, h1]; rfl), b0 _⟩

set_option maxHeartbeats 1000000 in
theorem ValidCopies_any (A : Option Addr) (c : Nat) (ps : List (Int × Int)) (f t : Int) (w : World) (ha : Rd w w.heap.size 2 A ps.length (prs ps)) (hl : ps.length ≤ 1048576) :
    Calls Try.prog 70 #[.slice A ps.length c, .int .i64 f, .int .i64 t] w fun e w' => e = .returned (.bool (validB ps f t)) ∧ Below w.heap.size w w' := by
  have hv := Lib.hid (show validB ps f t = (insideB f 1 20 && (insideB t 1 20 && (plainB ps && ps.all (fitsB f t)))) from rfl)
  have hall := Lib.hid (any_not_all' (fitsB f t) ps)
  have T0 : Below w.heap.size w ((w.alloc (.cells #[.int .i64 f] 2)).alloc (.cells #[.int .i64 t] 2)) := ba (ba (b0 _) _) _
  have ha2 := (ha.a1 (.cells #[.int .i64 f] 2)).a1 (.cells #[.int .i64 t] 2)
  have k1 : ((w.alloc (.cells #[.int .i64 f] 2)).alloc (.cells #[.int .i64 t] 2)).cell? ⟨w.heap.size, 0, none⟩ = some (.int .i64 f) := by simp
  have k2 : ((w.alloc (.cells #[.int .i64 f] 2)).alloc (.cells #[.int .i64 t] 2)).cell? ⟨w.heap.size + 1, 0, none⟩ = some (.int .i64 t) := by simp
  rcases Bool.eq_false_or_eq_true (insideB f 1 20) with h1 | h1
  · rcases Bool.eq_false_or_eq_true (insideB t 1 20) with h2 | h2
    · rcases Bool.eq_false_or_eq_true (plainB ps) with h3 | h3
      · go_enter Try.func70, Try.ntmps70
        go_wp2_with fail
        refine (inside_any _ _ _ _).mono ?_; rintro e w1 ⟨rfl, rfl⟩
        go_wp2_with fail
        refine (inside_any _ _ _ _).mono ?_; rintro e w1 ⟨rfl, rfl⟩
        go_wp2_with fail
        refine (isPlain_any _ _ _ _ ha2 hl).mono ?_; rintro e w1 ⟨rfl, hb1⟩
        replace k1 := cell_later hb1 k1
        replace k2 := cell_later hb1 k2
        have hcon := Lib.hid (ContainsFuncCopy_any A c ps 118 #[.pointer (some ⟨w.heap.size, 0, none⟩), .pointer (some ⟨w.heap.size + 1, 0, none⟩)] (fun p => !fitsB f t p) w1 (ha2.up hb1) hl Try.call118
          (fun p _ w' hb => ValidCopies1_any p.1 p.2 f t _ _ w' (cell_later hb k1) (cell_later hb k2)))
        go_wp2_with fail
        refine hcon.out.mono ?_; rintro e w2 ⟨rfl, hb2⟩
        go_wp2
        go_ret
        exact ⟨ret_bool (by rw [hv.out, h1, h2, h3, hall.out]; simp), bs (bs T0 hb1) hb2⟩
      · go_enter Try.func70, Try.ntmps70
        go_wp2_with fail
        refine (inside_any _ _ _ _).mono ?_; rintro e w1 ⟨rfl, rfl⟩
        go_wp2_with fail
        refine (inside_any _ _ _ _).mono ?_; rintro e w1 ⟨rfl, rfl⟩
        go_wp2_with fail
        refine (isPlain_any _ _ _ _ ha2 hl).mono ?_; rintro e w1 ⟨rfl, hb1⟩
        go_wp2
        go_ret
        exact ⟨ret_bool (by rw [hv.out, h1, h2, h3]; rfl), bs T0 hb1⟩
    · go_enter Try.func70, Try.ntmps70
      go_wp2_with fail
      refine (inside_any _ _ _ _).mono ?_; rintro e w1 ⟨rfl, rfl⟩
      go_wp2_with fail
      refine (inside_any _ _ _ _).mono ?_; rintro e w1 ⟨rfl, rfl⟩
      go_wp2
      go_ret
      exact ⟨ret_bool (by rw [hv.out, h1, h2]; rfl), T0⟩
  · go_enter Try.func70, Try.ntmps70
    go_wp2_with fail
    refine (inside_any _ _ _ _).mono ?_; rintro e w1 ⟨rfl, rfl⟩
    go_wp2
    go_ret
    exact ⟨ret_bool (by rw [hv.out, h1]; rfl), T0⟩
end Go.Proofs.Ytoakjfoioijaaaa
