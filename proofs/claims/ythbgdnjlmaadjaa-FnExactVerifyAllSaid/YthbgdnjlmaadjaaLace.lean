/- LaceColumn in the program and in the reference. -/
import Derived.Test.YthbgdnjlmaadjaaCardFns
namespace Go.Proofs.Ythbgdnjlmaadjaa
open Go.RowKit

def laceOk (xs : List Int) (n : Int) : Bool := cardOk xs && insideB n 0 ((xs.length : Int) - 1)
def laceRes (xs : List Int) (n : Int) : List Int := if laceOk xs n = true then xs.set n.toNat 4095 else []
def laceCode (xs : List Int) (n : Int) : Int := if cardOk xs = true then (if insideB n 0 ((xs.length : Int) - 1) = true then 0 else 2) else 1
theorem laceRes_length (xs : List Int) (n : Int) : (laceRes xs n).length ≤ 20 := by
  unfold laceRes
  split
  · rename_i h
    simp only [laceOk, Bool.and_eq_true] at h
    have := cardOk_len h.1
    simp
    omega
  · simp
theorem ints_set (xs : List Int) (k : Nat) (v : Int) : ints (xs.set k v) = (ints xs).set k (.int .i64 v) := by simp [ints, List.map_set]

set_option maxHeartbeats 2000000 in
theorem spLaceColumn_any (A : Option Addr) (c : Nat) (xs : List Int) (n : Int) (w : World) (ha : Rd w w.heap.size 1 A xs.length (ints xs)) (hl : xs.length ≤ 1048576) (hc : xs.length ≤ c) :
    Calls Try.prog 32 #[.agg #[.slice A xs.length c], .int .i64 n] w fun e w' => ∃ B d, e = .returned (.tuple #[.agg #[.slice B (laceRes xs n).length d], .int .i64 (laceCode xs n)]) ∧
      w'.ownsRow w.heap.size 2 1 (.slice B (laceRes xs n).length d) (laceRes xs n).length (ints (laceRes xs n)) ∧ Below w.heap.size w w' := by
  have T0 : Below w.heap.size w ((w.alloc (.cells #[.slice A xs.length c] 26)).alloc (.cells #[.slice none 0 0] 26)) := ba (ba (b0 _) _) _
  rcases Bool.eq_false_or_eq_true (cardOk xs) with hv | hv
  · rcases Bool.eq_false_or_eq_true (insideB n 0 ((xs.length : Int) - 1)) with hi | hi
    · obtain ⟨hi0, hi1⟩ := insideB_true hi
      obtain ⟨k, rfl⟩ := Int.eq_ofNat_of_zero_le hi0
      have hk : k < xs.length := by omega
      have hr := Lib.hid (show laceRes xs (k : Int) = xs.set k 4095 by unfold laceRes; rw [if_pos (by simp [laceOk, hv, hi])]; rfl)
      have hcd := Lib.hid (show laceCode xs (k : Int) = 0 by unfold laceCode; rw [if_pos hv, if_pos hi])
      go_enter Try.func32, Try.ntmps32
      go_wp2_with fail
      refine (l02Ok_any _ _ A c xs _ (by simp) ((ha.a1 _).a1 _) hl).mono ?_; rintro e w1 ⟨rfl, hb1⟩
      have k1 : w1.cell? ⟨w.heap.size, 0, none⟩ = some (.slice A xs.length c) := cell_later hb1 (by simp)
      have k2 : w1.cell? ⟨w.heap.size + 1, 0, none⟩ = some (.slice none 0 0) := cell_later hb1 (by simp)
      have f2 : w1.frozen? ⟨w.heap.size + 1, 0, none⟩ = false := (hb1.frozen (p := ⟨w.heap.size + 1, 0, none⟩) (by simp)).trans (by simp)
      have z1 := hb1.size
      simp only [World.size_alloc] at z1
      go_wp2_with fail
      refine (l00In_any _ _ _ _).mono ?_; rintro e w2 ⟨rfl, rfl⟩
      go_wp2_with fail
      refine (l02Own_any _ _ A c xs _ k1 (((ha.a1 _).a1 _).up hb1) hl).mono ?_; rintro e w2 ⟨B, d, rfl, ho, hb2⟩
      obtain ⟨g, rfl, hg, hglt⟩ := own_at ho hk
      replace k2 := cell_later hb2 k2
      have f3 : w2.frozen? ⟨w.heap.size + 1, 0, none⟩ = false := (hb2.frozen (p := ⟨w.heap.size + 1, 0, none⟩) (by simp only; omega)).trans f2
      have z2 := hb2.size
      have hox := ho.alloc (.cells #[.slice (some ⟨g, 0, none⟩) xs.length d] 26)
      have hcy := own_cell hox k (by rw [ints_length]; exact hk)
      have hfy := hox.frozenAt k
      have hs := ownsRow_set ho k (.int .i64 4095)
      rw [← ints_set] at hs
      have hne1 : ¬ g = w2.heap.size := by omega
      have hne2 : ¬ g = w.heap.size + 1 := by omega
      have hlt2 : w.heap.size + 1 < w2.heap.size := by omega
      go_wp2
      refine bodyPost_ret (v := .tuple #[.agg #[.slice (some ⟨g, 0, none⟩) xs.length d], .int .i64 0]) (by simp [results, Try.results32, go_sem, *]) rfl ?_
      rw [hr.out, hcd.out, List.length_set]
      exact ⟨_, d, rfl, own_base ((own_below hs _ _ _ (by omega)).alloc _) (by omega), ba (bset (bset (bs (bs T0 hb1) hb2) _ _ _ (by omega)) _ _ _ (by omega)) _⟩
    · have hr := Lib.hid (show laceRes xs n = [] by unfold laceRes; rw [if_neg (by simp [laceOk, hi])])
      have hcd := Lib.hid (show laceCode xs n = 2 by unfold laceCode; rw [if_pos hv, if_neg (by simp [hi])])
      go_enter Try.func32, Try.ntmps32
      go_wp2_with fail
      refine (l02Ok_any _ _ A c xs _ (by simp) ((ha.a1 _).a1 _) hl).mono ?_; rintro e w1 ⟨rfl, hb1⟩
      have k1 : w1.cell? ⟨w.heap.size, 0, none⟩ = some (.slice A xs.length c) := cell_later hb1 (by simp)
      have k2 : w1.cell? ⟨w.heap.size + 1, 0, none⟩ = some (.slice none 0 0) := cell_later hb1 (by simp)
      have f2 : w1.frozen? ⟨w.heap.size + 1, 0, none⟩ = false := (hb1.frozen (p := ⟨w.heap.size + 1, 0, none⟩) (by simp)).trans (by simp)
      go_wp2_with fail
      refine (l00In_any _ _ _ _).mono ?_; rintro e w2 ⟨rfl, rfl⟩
      go_wp2
      refine bodyPost_ret (v := .tuple #[.agg #[.slice none 0 0], .int .i64 2]) (by simp [results, Try.results32, go_sem, *]) rfl ?_
      rw [hr.out, hcd.out]
      exact ⟨none, 0, rfl, World.ownsRow_nil _ _ _ _, bset (bs T0 hb1) _ _ _ (by omega)⟩
  · have hr := Lib.hid (show laceRes xs n = [] by unfold laceRes; rw [if_neg (by simp [laceOk, hv])])
    have hcd := Lib.hid (show laceCode xs n = 1 by unfold laceCode; rw [if_neg (by simp [hv])])
    go_enter Try.func32, Try.ntmps32
    go_wp2_with fail
    refine (l02Ok_any _ _ A c xs _ (by simp) ((ha.a1 _).a1 _) hl).mono ?_; rintro e w1 ⟨rfl, hb1⟩
    have k2 : w1.cell? ⟨w.heap.size + 1, 0, none⟩ = some (.slice none 0 0) := cell_later hb1 (by simp)
    have f2 : w1.frozen? ⟨w.heap.size + 1, 0, none⟩ = false := (hb1.frozen (p := ⟨w.heap.size + 1, 0, none⟩) (by simp)).trans (by simp)
    go_wp2
    refine bodyPost_ret (v := .tuple #[.agg #[.slice none 0 0], .int .i64 1]) (by simp [results, Try.results32, go_sem, *]) rfl ?_
    rw [hr.out, hcd.out]
    exact ⟨none, 0, rfl, World.ownsRow_nil _ _ _ _, bset (bs T0 hb1) _ _ _ (by omega)⟩

set_option maxHeartbeats 2000000 in
theorem LaceColumn_any (A : Option Addr) (c : Nat) (xs : List Int) (n : Int) (w : World) (ha : Rd w w.heap.size 1 A xs.length (ints xs)) (hl : xs.length ≤ 1048576) (hc : xs.length ≤ c) :
    Calls Try.prog 31 #[.agg #[.slice A xs.length c], .int .i64 n] w fun e w' => ∃ B d, e = .returned (.tuple #[.agg #[.slice B (laceRes xs n).length d], .int .i64 (laceCode xs n)]) ∧
      w'.ownsRow w.heap.size 2 1 (.slice B (laceRes xs n).length d) (laceRes xs n).length (ints (laceRes xs n)) ∧ Below w.heap.size w w' := by
  have T0 : Below w.heap.size w ((w.alloc (.cells #[.slice A xs.length c] 26)).alloc (.cells #[.slice none 0 0] 26)) := ba (ba (b0 _) _) _
  rcases Bool.eq_false_or_eq_true (cardOk xs) with hv | hv
  · rcases Bool.eq_false_or_eq_true (insideB n 0 ((xs.length : Int) - 1)) with hi | hi
    · obtain ⟨hi0, hi1⟩ := insideB_true hi
      obtain ⟨k, rfl⟩ := Int.eq_ofNat_of_zero_le hi0
      have hk : k < xs.length := by omega
      have hr := Lib.hid (show laceRes xs (k : Int) = xs.set k 4095 by unfold laceRes; rw [if_pos (by simp [laceOk, hv, hi])]; rfl)
      have hcd := Lib.hid (show laceCode xs (k : Int) = 0 by unfold laceCode; rw [if_pos hv, if_pos hi])
      go_enter Try.func31, Try.ntmps31
      go_wp2_with fail
      refine (ValidCard_any _ _ _ _ ((ha.a1 _).a1 _) hl).mono ?_; rintro e w1 ⟨rfl, hb1⟩
      have k1 : w1.cell? ⟨w.heap.size, 0, none⟩ = some (.slice A xs.length c) := cell_later hb1 (by simp)
      have k2 : w1.cell? ⟨w.heap.size + 1, 0, none⟩ = some (.slice none 0 0) := cell_later hb1 (by simp)
      have f2 : w1.frozen? ⟨w.heap.size + 1, 0, none⟩ = false := (hb1.frozen (p := ⟨w.heap.size + 1, 0, none⟩) (by simp)).trans (by simp)
      have z1 := hb1.size
      simp only [World.size_alloc] at z1
      go_wp2_with fail
      refine (columns_any _ _ _ _ hl).mono ?_; rintro e wc ⟨rfl, hbc⟩
      replace k1 := cell_later hbc k1
      replace k2 := cell_later hbc k2
      replace f2 : wc.frozen? ⟨w.heap.size + 1, 0, none⟩ = false := (hbc.frozen (p := ⟨w.heap.size + 1, 0, none⟩) (by simp only; omega)).trans f2
      have zc := hbc.size
      have ha1 := (((ha.a1 (.cells #[.slice A xs.length c] 26)).a1 (.cells #[.slice none 0 0] 26)).up hb1).up hbc
      replace hb1 := bs (bs T0 hb1) hbc
      clear T0 hbc
      go_wp2_with fail
      refine (inside_any _ _ _ _).mono ?_; rintro e w2 ⟨rfl, rfl⟩
      go_wp2_with fail
      refine (newCard_any A c xs _ ha1 hl).mono ?_; rintro e w2 ⟨B, d, rfl, ho, hb2⟩
      obtain ⟨g, rfl, hg, hglt⟩ := own_at ho hk
      replace k2 := cell_later hb2 k2
      have f3 : w2.frozen? ⟨w.heap.size + 1, 0, none⟩ = false := (hb2.frozen (p := ⟨w.heap.size + 1, 0, none⟩) (by simp only; omega)).trans f2
      have z2 := hb2.size
      have hox := ho.alloc (.cells #[.slice (some ⟨g, 0, none⟩) xs.length d] 26)
      have hcy := own_cell hox k (by rw [ints_length]; exact hk)
      have hfy := hox.frozenAt k
      have hs := ownsRow_set ho k (.int .i64 4095)
      rw [← ints_set] at hs
      have hne1 : ¬ g = w2.heap.size := by omega
      have hne2 : ¬ g = w.heap.size + 1 := by omega
      have hlt2 : w.heap.size + 1 < w2.heap.size := by omega
      go_wp2
      refine bodyPost_ret (v := .tuple #[.agg #[.slice (some ⟨g, 0, none⟩) xs.length d], .int .i64 0]) (by simp [results, Try.results31, go_sem, *]) rfl ?_
      rw [hr.out, hcd.out, List.length_set]
      exact ⟨_, d, rfl, own_base ((own_below hs _ _ _ (by omega)).alloc _) (by omega), ba (bset (bset (bs hb1 hb2) _ _ _ (by omega)) _ _ _ (by omega)) _⟩
    · have hr := Lib.hid (show laceRes xs n = [] by unfold laceRes; rw [if_neg (by simp [laceOk, hi])])
      have hcd := Lib.hid (show laceCode xs n = 2 by unfold laceCode; rw [if_pos hv, if_neg (by simp [hi])])
      go_enter Try.func31, Try.ntmps31
      go_wp2_with fail
      refine (ValidCard_any _ _ _ _ ((ha.a1 _).a1 _) hl).mono ?_; rintro e w1 ⟨rfl, hb1⟩
      have k1 : w1.cell? ⟨w.heap.size, 0, none⟩ = some (.slice A xs.length c) := cell_later hb1 (by simp)
      have k2 : w1.cell? ⟨w.heap.size + 1, 0, none⟩ = some (.slice none 0 0) := cell_later hb1 (by simp)
      have f2 : w1.frozen? ⟨w.heap.size + 1, 0, none⟩ = false := (hb1.frozen (p := ⟨w.heap.size + 1, 0, none⟩) (by simp)).trans (by simp)
      have z1 := hb1.size
      simp only [World.size_alloc] at z1
      go_wp2_with fail
      refine (columns_any _ _ _ _ hl).mono ?_; rintro e wc ⟨rfl, hbc⟩
      replace k2 := cell_later hbc k2
      replace f2 : wc.frozen? ⟨w.heap.size + 1, 0, none⟩ = false := (hbc.frozen (p := ⟨w.heap.size + 1, 0, none⟩) (by simp only; omega)).trans f2
      replace hb1 := bs (bs T0 hb1) hbc
      clear T0 hbc
      go_wp2_with fail
      refine (inside_any _ _ _ _).mono ?_; rintro e w2 ⟨rfl, rfl⟩
      go_wp2
      refine bodyPost_ret (v := .tuple #[.agg #[.slice none 0 0], .int .i64 2]) (by simp [results, Try.results31, go_sem, *]) rfl ?_
      rw [hr.out, hcd.out]
      exact ⟨none, 0, rfl, World.ownsRow_nil _ _ _ _, bset hb1 _ _ _ (by omega)⟩
  · have hr := Lib.hid (show laceRes xs n = [] by unfold laceRes; rw [if_neg (by simp [laceOk, hv])])
    have hcd := Lib.hid (show laceCode xs n = 1 by unfold laceCode; rw [if_neg (by simp [hv])])
    go_enter Try.func31, Try.ntmps31
    go_wp2_with fail
    refine (ValidCard_any _ _ _ _ ((ha.a1 _).a1 _) hl).mono ?_; rintro e w1 ⟨rfl, hb1⟩
    have k2 : w1.cell? ⟨w.heap.size + 1, 0, none⟩ = some (.slice none 0 0) := cell_later hb1 (by simp)
    have f2 : w1.frozen? ⟨w.heap.size + 1, 0, none⟩ = false := (hb1.frozen (p := ⟨w.heap.size + 1, 0, none⟩) (by simp)).trans (by simp)
    go_wp2
    refine bodyPost_ret (v := .tuple #[.agg #[.slice none 0 0], .int .i64 1]) (by simp [results, Try.results31, go_sem, *]) rfl ?_
    rw [hr.out, hcd.out]
    exact ⟨none, 0, rfl, World.ownsRow_nil _ _ _ _, bset (bs T0 hb1) _ _ _ (by omega)⟩
end Go.Proofs.Ythbgdnjlmaadjaa
