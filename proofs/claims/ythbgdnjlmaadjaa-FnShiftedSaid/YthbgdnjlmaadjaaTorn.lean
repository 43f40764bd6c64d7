/- TornColumns in the program and in the reference. -/
import Derived.Test.YthbgdnjlmaadjaaCardFns
import Derived.Test.YthbgdnjlmaadjaaPlan
import Derived.Test.YthbgdnjlmaadjaaLace
import Derived.Deep.RegionHeld3
namespace Go.Proofs.Ythbgdnjlmaadjaa
open Go.RowKit

def fieldC (xs : List Int) (a b : Int) : Int := if cardOk xs = true then (if fieldOk a b (xs.length : Int) = true then 0 else 2) else 1
theorem fieldC_no {xs : List Int} {a b : Int} (h : cardOk xs = false) : fieldC xs a b = 1 := by unfold fieldC; rw [if_neg (by simp [h])]
theorem fieldC_two {xs : List Int} {a b : Int} (h : cardOk xs = true) (h2 : fieldOk a b (xs.length : Int) = false) : fieldC xs a b = 2 := by unfold fieldC; rw [if_pos h, if_neg (by simp [h2])]
theorem fieldC_ok {xs : List Int} {a b : Int} (h : cardOk xs = true) (h2 : fieldOk a b (xs.length : Int) = true) : fieldC xs a b = 0 := by unfold fieldC; rw [if_pos h, if_pos h2]
theorem fieldC_zero {xs : List Int} {a b : Int} (h : fieldC xs a b = 0) : cardOk xs = true ∧ fieldOk a b (xs.length : Int) = true := by
  unfold fieldC at h
  split at h
  · rename_i h1
    split at h
    · rename_i h2
      exact ⟨h1, h2⟩
    · simp at h
  · simp at h

set_option maxHeartbeats 1000000 in
theorem fieldCode_any (A : Option Addr) (c : Nat) (xs : List Int) (a b : Int) (w : World) (ha : Rd w w.heap.size 1 A xs.length (ints xs)) (hl : xs.length ≤ 1048576) :
    Calls Try.prog 115 #[.agg #[.slice A xs.length c], .agg #[.int .i64 a, .int .i64 b]] w fun e w' => e = .returned (.int .i64 (fieldC xs a b)) ∧ Below w.heap.size w w' := by
  rcases Bool.eq_false_or_eq_true (cardOk xs) with h1 | h1
  · have hp : fieldC xs a b = if fieldOk a b (xs.length : Int) = true then 0 else 2 := by unfold fieldC; rw [if_pos h1]
    have HP := Lib.hid hp
    clear hp
    rcases Bool.eq_false_or_eq_true (fieldOk a b (xs.length : Int)) with h2 | h2
    · go_enter Try.func115, Try.ntmps115
      go_wp2_with fail
      refine (ValidCard_any _ _ _ _ ((ha.a1 _).a1 _) hl).mono ?_; rintro e w1 ⟨rfl, hb1⟩
      have k1 : w1.cell? ⟨w.heap.size, 0, none⟩ = some (.slice A xs.length c) := cell_later hb1 (by simp)
      have k2 : w1.cell? ⟨w.heap.size + 1, 0, none⟩ = some (.int .i64 a) := cell_later hb1 (by simp)
      have k3 : w1.cell? ⟨w.heap.size + 1, 1, none⟩ = some (.int .i64 b) := cell_later hb1 (by simp)
      have T1 : Below w.heap.size w w1 := bs (ba (ba (b0 _) _) _) hb1
      go_wp2_with fail
      go_region_held3 (fun w' => w'.cell? ⟨w.heap.size, 0, none⟩ = some (.slice A xs.length c) ∧ w'.cell? ⟨w.heap.size + 1, 0, none⟩ = some (.int .i64 a) ∧ w'.cell? ⟨w.heap.size + 1, 1, none⟩ = some (.int .i64 b)) (first | exact ⟨k1, k2, k3⟩ | go_keep)
        (first
          | (go_at_call 82; refine (columns_any A xs.length c _ ?_).mono ?_; (exact hl); rintro e w2 ⟨rfl, hb2⟩; have hb2 : Below w1.heap.size w1 w2 := ⟨hb2.os, hb2.tape, hb2.output, hb2.size, hb2.block⟩; have T2 := bs T1 hb2; replace k1 := cell_later hb2 k1; replace k2 := cell_later hb2 k2; replace k3 := cell_later hb2 k3)
          | (go_at_call 158; refine (isField_any a b _ _).mono ?_; rintro e w3 ⟨rfl, hb3⟩; have hb3 : Below w2.heap.size w2 w3 := ⟨hb3.os, hb3.tape, hb3.output, hb3.size, hb3.block⟩; have T3 := bs T2 hb3; replace k1 := cell_later hb3 k1; replace k2 := cell_later hb3 k2; replace k3 := cell_later hb3 k3)
        )
      go_wp2
      go_ret
      exact ⟨ret_int (by rw [HP.out, h2]; rfl), T3⟩
    · go_enter Try.func115, Try.ntmps115
      go_wp2_with fail
      refine (ValidCard_any _ _ _ _ ((ha.a1 _).a1 _) hl).mono ?_; rintro e w1 ⟨rfl, hb1⟩
      have k1 : w1.cell? ⟨w.heap.size, 0, none⟩ = some (.slice A xs.length c) := cell_later hb1 (by simp)
      have k2 : w1.cell? ⟨w.heap.size + 1, 0, none⟩ = some (.int .i64 a) := cell_later hb1 (by simp)
      have k3 : w1.cell? ⟨w.heap.size + 1, 1, none⟩ = some (.int .i64 b) := cell_later hb1 (by simp)
      have T1 : Below w.heap.size w w1 := bs (ba (ba (b0 _) _) _) hb1
      go_wp2_with fail
      go_region_held3 (fun w' => w'.cell? ⟨w.heap.size, 0, none⟩ = some (.slice A xs.length c) ∧ w'.cell? ⟨w.heap.size + 1, 0, none⟩ = some (.int .i64 a) ∧ w'.cell? ⟨w.heap.size + 1, 1, none⟩ = some (.int .i64 b)) (first | exact ⟨k1, k2, k3⟩ | go_keep)
        (first
          | (go_at_call 82; refine (columns_any A xs.length c _ ?_).mono ?_; (exact hl); rintro e w2 ⟨rfl, hb2⟩; have hb2 : Below w1.heap.size w1 w2 := ⟨hb2.os, hb2.tape, hb2.output, hb2.size, hb2.block⟩; have T2 := bs T1 hb2; replace k1 := cell_later hb2 k1; replace k2 := cell_later hb2 k2; replace k3 := cell_later hb2 k3)
          | (go_at_call 158; refine (isField_any a b _ _).mono ?_; rintro e w3 ⟨rfl, hb3⟩; have hb3 : Below w2.heap.size w2 w3 := ⟨hb3.os, hb3.tape, hb3.output, hb3.size, hb3.block⟩; have T3 := bs T2 hb3; replace k1 := cell_later hb3 k1; replace k2 := cell_later hb3 k2; replace k3 := cell_later hb3 k3)
        )
      go_wp2
      go_ret
      exact ⟨ret_int (by rw [HP.out, h2]; rfl), T3⟩
  · have HP := Lib.hid (fieldC_no (a := a) (b := b) h1)
    go_enter Try.func115, Try.ntmps115
    go_wp2_with fail
    refine (ValidCard_any _ _ _ _ ((ha.a1 _).a1 _) hl).mono ?_; rintro e w1 ⟨rfl, hb1⟩
    have T1 : Below w.heap.size w w1 := bs (ba (ba (b0 _) _) _) hb1
    go_wp2
    go_ret
    exact ⟨ret_int HP.out.symm, T1⟩

set_option maxHeartbeats 1000000 in
theorem l02Code_any (p q : Nat) (A : Option Addr) (c : Nat) (xs : List Int) (a b : Int) (w : World) (hp : w.cell? ⟨p, q, none⟩ = some (.slice A xs.length c)) (ha : Rd w w.heap.size 1 A xs.length (ints xs)) (hl : xs.length ≤ 1048576) :
    Calls Try.prog 116 #[.pointer (some ⟨p, q, none⟩), .agg #[.int .i64 a, .int .i64 b]] w fun e w' => e = .returned (.int .i64 (fieldC xs a b)) ∧ Below w.heap.size w w' := by
  have hlt := World.block_lt_of_cell? _ _ hp
  simp only at hlt
  have hp1 : (w.alloc (.cells #[.int .i64 a, .int .i64 b] 51)).cell? ⟨p, q, none⟩ = some (.slice A xs.length c) := by rw [World.cell?_alloc_lt _ _ _ (by exact hlt), hp]
  rcases Bool.eq_false_or_eq_true (cardOk xs) with h1 | h1
  · have hp : fieldC xs a b = if fieldOk a b (xs.length : Int) = true then 0 else 2 := by unfold fieldC; rw [if_pos h1]
    have HP := Lib.hid hp
    clear hp
    rcases Bool.eq_false_or_eq_true (fieldOk a b (xs.length : Int)) with h2 | h2
    · go_enter Try.func116, Try.ntmps116
      go_wp2_with fail
      refine (l02Ok_any _ _ A c xs _ hp1 (ha.a1 _) hl).mono ?_; rintro e w1 ⟨rfl, hb1⟩
      have k1 : w1.cell? ⟨p, q, none⟩ = some (.slice A xs.length c) := cell_later hb1 hp1
      have k2 : w1.cell? ⟨w.heap.size, 0, none⟩ = some (.int .i64 a) := cell_later hb1 (by simp)
      have k3 : w1.cell? ⟨w.heap.size, 1, none⟩ = some (.int .i64 b) := cell_later hb1 (by simp)
      have T1 : Below w.heap.size w w1 := bs (ba (b0 _) _) hb1
      go_wp2_with fail
      go_region_held3 (fun w' => w'.cell? ⟨p, q, none⟩ = some (.slice A xs.length c) ∧ w'.cell? ⟨w.heap.size, 0, none⟩ = some (.int .i64 a) ∧ w'.cell? ⟨w.heap.size, 1, none⟩ = some (.int .i64 b)) (first | exact ⟨k1, k2, k3⟩ | go_keep)
        (first
          | (go_at_call 159; refine (l02Field_any a b _ _).mono ?_; rintro e w3 ⟨rfl, hb3⟩; have hb3 : Below w1.heap.size w1 w3 := ⟨hb3.os, hb3.tape, hb3.output, hb3.size, hb3.block⟩; have T3 := bs T1 hb3; replace k1 := cell_later hb3 k1; replace k2 := cell_later hb3 k2; replace k3 := cell_later hb3 k3)
        )
      go_wp2
      go_ret
      exact ⟨ret_int (by rw [HP.out, h2]; rfl), T3⟩
    · go_enter Try.func116, Try.ntmps116
      go_wp2_with fail
      refine (l02Ok_any _ _ A c xs _ hp1 (ha.a1 _) hl).mono ?_; rintro e w1 ⟨rfl, hb1⟩
      have k1 : w1.cell? ⟨p, q, none⟩ = some (.slice A xs.length c) := cell_later hb1 hp1
      have k2 : w1.cell? ⟨w.heap.size, 0, none⟩ = some (.int .i64 a) := cell_later hb1 (by simp)
      have k3 : w1.cell? ⟨w.heap.size, 1, none⟩ = some (.int .i64 b) := cell_later hb1 (by simp)
      have T1 : Below w.heap.size w w1 := bs (ba (b0 _) _) hb1
      go_wp2_with fail
      go_region_held3 (fun w' => w'.cell? ⟨p, q, none⟩ = some (.slice A xs.length c) ∧ w'.cell? ⟨w.heap.size, 0, none⟩ = some (.int .i64 a) ∧ w'.cell? ⟨w.heap.size, 1, none⟩ = some (.int .i64 b)) (first | exact ⟨k1, k2, k3⟩ | go_keep)
        (first
          | (go_at_call 159; refine (l02Field_any a b _ _).mono ?_; rintro e w3 ⟨rfl, hb3⟩; have hb3 : Below w1.heap.size w1 w3 := ⟨hb3.os, hb3.tape, hb3.output, hb3.size, hb3.block⟩; have T3 := bs T1 hb3; replace k1 := cell_later hb3 k1; replace k2 := cell_later hb3 k2; replace k3 := cell_later hb3 k3)
        )
      go_wp2
      go_ret
      exact ⟨ret_int (by rw [HP.out, h2]; rfl), T3⟩
  · have HP := Lib.hid (fieldC_no (a := a) (b := b) h1)
    go_enter Try.func116, Try.ntmps116
    go_wp2_with fail
    refine (l02Ok_any _ _ A c xs _ hp1 (ha.a1 _) hl).mono ?_; rintro e w1 ⟨rfl, hb1⟩
    have T1 : Below w.heap.size w w1 := bs (ba (b0 _) _) hb1
    go_wp2
    go_ret
    exact ⟨ret_int HP.out.symm, T1⟩

/-- The columns from a up to b are without holes. -/
def tornL (xs : List Int) (a b : Nat) : List Int := xs.take a ++ List.replicate (b - a) 0 ++ xs.drop b
theorem tornL_length {xs : List Int} {a b : Nat} (h : a ≤ b) (hb : b ≤ xs.length) : (tornL xs a b).length = xs.length := by
  simp [tornL]
  omega
theorem tornL_self {xs : List Int} {a : Nat} : tornL xs a a = xs := by simp [tornL]
theorem tornL_step {xs : List Int} {a k : Nat} (h : a ≤ k) (hk : k < xs.length) : (tornL xs a k).set k 0 = tornL xs a (k + 1) := by
  unfold tornL
  have e1 : (xs.take a ++ List.replicate (k - a) (0 : Int)).length = k := by simp; omega
  rw [List.set_append_right _ _ (by omega), e1, Nat.sub_self, List.drop_eq_getElem_cons hk, List.set_cons_zero]
  have e2 : k + 1 - a = k - a + 1 := by omega
  rw [e2, List.replicate_succ', List.append_assoc, List.append_assoc, List.append_assoc, List.singleton_append]
def tornRes (xs : List Int) (a b : Int) : List Int := if fieldC xs a b = 0 then tornL xs a.toNat b.toNat else []
theorem tornRes_length (xs : List Int) (a b : Int) : (tornRes xs a b).length ≤ 20 := by
  unfold tornRes
  split
  · rename_i h
    obtain ⟨h1, h2⟩ := fieldC_zero h
    have h3 := cardOk_len h1
    obtain ⟨h4, h5, h6⟩ := fieldOk_true h2
    rw [tornL_length (by omega) (by omega)]
    omega
  · simp
theorem zeroCells_ints (m : Nat) : (Builtin.zeroCells (Value.cells (.int .i64 0)) m).toList = ints (List.replicate m 0) := by
  apply List.ext_getElem
  · simp [Builtin.zeroCells, ints, Value.cells]
  · intro k h1 h2
    simp [Builtin.zeroCells, ints, Value.cells, Nat.mod_one]

set_option maxRecDepth 100000 in
set_option maxHeartbeats 2000000 in
theorem TornColumns_any (A : Option Addr) (c : Nat) (xs : List Int) (a b : Int) (w : World) (ha : Rd w w.heap.size 1 A xs.length (ints xs)) (hl : xs.length ≤ 1048576) (hc : xs.length ≤ c) :
    Calls Try.prog 40 #[.agg #[.slice A xs.length c], .agg #[.int .i64 a, .int .i64 b]] w fun e w' => ∃ B d, e = .returned (.tuple #[.agg #[.slice B (tornRes xs a b).length d], .int .i64 (fieldC xs a b)]) ∧
      w'.ownsRow w.heap.size 2 1 (.slice B (tornRes xs a b).length d) (tornRes xs a b).length (ints (tornRes xs a b)) ∧ Below w.heap.size w w' := by
  have T0 : Below w.heap.size w (((w.alloc (.cells #[.slice A xs.length c] 26)).alloc (.cells #[.int .i64 a, .int .i64 b] 51)).alloc (.cells #[.slice none 0 0] 26)) := ba (ba (ba (b0 _) _) _) _
  replace ha := ((ha.a1 (.cells #[.slice A xs.length c] 26)).a1 (.cells #[.int .i64 a, .int .i64 b] 51)).a1 (.cells #[.slice none 0 0] 26)
  by_cases hz : fieldC xs a b = 0
  · obtain ⟨hv, hf⟩ := fieldC_zero hz
    obtain ⟨hf0, hf1, hf2⟩ := fieldOk_true hf
    obtain ⟨i, rfl⟩ := Int.eq_ofNat_of_zero_le hf0
    obtain ⟨j, rfl⟩ := Int.eq_ofNat_of_zero_le (show 0 ≤ b by omega)
    have hij : i < j := by omega
    have hjl : j ≤ xs.length := by omega
    have hr := Lib.hid (show tornRes xs (i : Int) (j : Int) = tornL xs i j by unfold tornRes; rw [if_pos hz]; rfl)
    have hrl := Lib.hid (tornL_length (xs := xs) (a := i) (b := j) (by omega) hjl)
    clear hv hf
    go_enter Try.func40, Try.ntmps40
    go_wp2_with fail
    refine (fieldCode_any _ _ xs _ _ _ ha hl).mono ?_; rintro e w1 ⟨rfl, hb1⟩
    have k1 : w1.cell? ⟨w.heap.size, 0, none⟩ = some (.slice A xs.length c) := cell_later hb1 (cell_alloc (cell_alloc (cell_new rfl rfl) _) _)
    have k2 : w1.cell? ⟨w.heap.size + 1, 0, none⟩ = some (.int .i64 (i : Int)) := cell_later hb1 (cell_alloc (cell_new (by simp) rfl) _)
    have k3 : w1.cell? ⟨w.heap.size + 1, 1, none⟩ = some (.int .i64 (j : Int)) := cell_later hb1 (cell_alloc (cell_new (by simp) rfl) _)
    have k4 : w1.cell? ⟨w.heap.size + 1 + 1, 0, none⟩ = some (.slice none 0 0) := cell_later hb1 (cell_new (by simp) rfl)
    have f4 : w1.frozen? ⟨w.heap.size + 1 + 1, 0, none⟩ = false := froz_later hb1 (froz_new (by simp)) (by simp)
    have z1 := hb1.size
    simp only [World.size_alloc] at z1
    have T1 := bs T0 hb1
    go_wp2_with fail
    refine (newCard_any _ _ _ _ (ha.up hb1) hl).mono ?_; rintro e w2 ⟨B, d, rfl, ho, hb2⟩
    obtain ⟨g, rfl, hg, hglt⟩ := own_at ho (show 0 < xs.length by omega)
    have hd := (own_cap ho).1
    replace k2 := cell_later hb2 k2
    replace k3 := cell_later hb2 k3
    replace k4 := cell_later hb2 k4
    replace f4 : w2.frozen? ⟨w.heap.size + 1 + 1, 0, none⟩ = false := (hb2.frozen (p := ⟨w.heap.size + 1 + 1, 0, none⟩) (by simp only; omega)).trans f4
    have z2 := hb2.size
    have T2 := bs T1 hb2
    have hox := ho.alloc (.cells #[.slice (some ⟨g, 0, none⟩) xs.length d] 26)
    have k2' := cell_alloc k2 (.cells #[.slice (some ⟨g, 0, none⟩) xs.length d] 26)
    have k3' := cell_alloc k3 (.cells #[.slice (some ⟨g, 0, none⟩) xs.length d] 26)
    have kx : World.cell? (w2.alloc (.cells #[.slice (some ⟨g, 0, none⟩) xs.length d] 26)) ⟨w2.heap.size, 0, none⟩ = some (.slice (some ⟨g, 0, none⟩) xs.length d) := cell_new rfl rfl
    have hdi : ¬ d = i := by omega
    obtain ⟨w3, hrun, ho3, hg3⟩ := run_clear_own (P := Try.prog) (t := 24) (ty := 0) Try.underlying24 Try.zeroValue2 (size := 1) rfl (by intro u hu; simp [Value.cells] at hu; subst hu; rfl) hox i (j - i) (d - i) (by omega) (by omega)
    have k5 : w3.cell? ⟨w2.heap.size, 0, none⟩ = some (.slice (some ⟨g, 0, none⟩) xs.length d) := cell_grown hg3 (cell_new rfl rfl) (by omega)
    have k4' : w3.cell? ⟨w.heap.size + 1 + 1, 0, none⟩ = some (.slice none 0 0) := cell_grown hg3 (cell_alloc k4 _) (by omega)
    have f4' : w3.frozen? ⟨w.heap.size + 1 + 1, 0, none⟩ = false := froz_grown hg3 (froz_alloc f4 (by omega) _) (by simp only [World.size_alloc]; omega) (by omega)
    have T3 : Below w.heap.size w w3 := (ba T2 (.cells #[.slice (some ⟨g, 0, none⟩) xs.length d] 26)).grown hg3 (by first | omega | (simp only [World.size_alloc]; omega) | (simp; omega) | simp) (by intro q hq; injection hq with hq; omega)
    have hcon := Lib.hid (show ints (tornL xs i j) = (ints xs).take (i * 1) ++ (Builtin.zeroCells (Value.cells (.int .i64 0)) (j - i)).toList ++ (ints xs).drop ((i + (j - i)) * 1) by
      rw [zeroCells_ints, Nat.mul_one, Nat.mul_one, show i + (j - i) = j by omega]
      simp [tornL, ints])
    rw [Nat.mul_one] at hrun
    have zt : w.heap.size + 1 + 1 < w1.heap.size := by omega
    clear hox hg3 ho
    clear T0 T1 T2 hb1 hb2 z1 z2 ha
    go_wp2
    refine bodyPost_ret (v := .tuple #[.agg #[.slice (some ⟨g, 0, none⟩) xs.length d], .int .i64 0]) (by simp [results, Try.results40, go_sem, *]) rfl ?_
    rw [hr.out, hrl.out, hz, hcon.out]
    exact ⟨_, d, rfl, own_base (own_below ho3 _ _ _ (by omega)) (by omega), bset T3 _ _ _ (by omega)⟩
  · have hr := Lib.hid (show tornRes xs a b = [] by unfold tornRes; rw [if_neg hz])
    go_enter Try.func40, Try.ntmps40
    go_wp2_with fail
    refine (fieldCode_any _ _ xs _ _ _ ha hl).mono ?_; rintro e w1 ⟨rfl, hb1⟩
    have k4 : w1.cell? ⟨w.heap.size + 1 + 1, 0, none⟩ = some (.slice none 0 0) := cell_later hb1 (cell_new (by simp) rfl)
    have f4 : w1.frozen? ⟨w.heap.size + 1 + 1, 0, none⟩ = false := froz_later hb1 (froz_new (by simp)) (by simp)
    go_wp2
    refine bodyPost_ret (v := .tuple #[.agg #[.slice none 0 0], .int .i64 (fieldC xs a b)]) (by simp [results, Try.results40, go_sem, *]) rfl ?_
    rw [hr.out]
    exact ⟨none, 0, rfl, World.ownsRow_nil _ _ _ _, bset (bs T0 hb1) _ _ _ (by omega)⟩

set_option maxRecDepth 100000 in
set_option maxHeartbeats 2000000 in
theorem spTornColumns_any (A : Option Addr) (c : Nat) (xs : List Int) (a b : Int) (w : World) (ha : Rd w w.heap.size 1 A xs.length (ints xs)) (hl : xs.length ≤ 1048576) (hc : xs.length ≤ c) :
    Calls Try.prog 41 #[.agg #[.slice A xs.length c], .agg #[.int .i64 a, .int .i64 b]] w fun e w' => ∃ B d, e = .returned (.tuple #[.agg #[.slice B (tornRes xs a b).length d], .int .i64 (fieldC xs a b)]) ∧
      w'.ownsRow w.heap.size 2 1 (.slice B (tornRes xs a b).length d) (tornRes xs a b).length (ints (tornRes xs a b)) ∧ Below w.heap.size w w' := by
  have T0 : Below w.heap.size w (((w.alloc (.cells #[.slice A xs.length c] 26)).alloc (.cells #[.int .i64 a, .int .i64 b] 51)).alloc (.cells #[.slice none 0 0] 26)) := ba (ba (ba (b0 _) _) _) _
  replace ha := ((ha.a1 (.cells #[.slice A xs.length c] 26)).a1 (.cells #[.int .i64 a, .int .i64 b] 51)).a1 (.cells #[.slice none 0 0] 26)
  by_cases hz : fieldC xs a b = 0
  · obtain ⟨hv, hf⟩ := fieldC_zero hz
    obtain ⟨hf0, hf1, hf2⟩ := fieldOk_true hf
    obtain ⟨i, rfl⟩ := Int.eq_ofNat_of_zero_le hf0
    obtain ⟨j, rfl⟩ := Int.eq_ofNat_of_zero_le (show 0 ≤ b by omega)
    have hij : i < j := by omega
    have hjl : j ≤ xs.length := by omega
    have hr := Lib.hid (show tornRes xs (i : Int) (j : Int) = tornL xs i j by unfold tornRes; rw [if_pos hz]; rfl)
    have hrl := Lib.hid (tornL_length (xs := xs) (a := i) (b := j) (by omega) hjl)
    clear hv hf
    go_enter Try.func41, Try.ntmps41
    go_wp2_with fail
    refine (l02Code_any _ _ A c xs _ _ _ (cell_alloc (cell_alloc (cell_new rfl rfl) _) _) ha hl).mono ?_; rintro e w1 ⟨rfl, hb1⟩
    have k1 : w1.cell? ⟨w.heap.size, 0, none⟩ = some (.slice A xs.length c) := cell_later hb1 (cell_alloc (cell_alloc (cell_new rfl rfl) _) _)
    have k2 : w1.cell? ⟨w.heap.size + 1, 0, none⟩ = some (.int .i64 (i : Int)) := cell_later hb1 (cell_alloc (cell_new (by simp) rfl) _)
    have k3 : w1.cell? ⟨w.heap.size + 1, 1, none⟩ = some (.int .i64 (j : Int)) := cell_later hb1 (cell_alloc (cell_new (by simp) rfl) _)
    have k4 : w1.cell? ⟨w.heap.size + 1 + 1, 0, none⟩ = some (.slice none 0 0) := cell_later hb1 (cell_new (by simp) rfl)
    have f4 : w1.frozen? ⟨w.heap.size + 1 + 1, 0, none⟩ = false := froz_later hb1 (froz_new (by simp)) (by simp)
    have z1 := hb1.size
    simp only [World.size_alloc] at z1
    have T1 := bs T0 hb1
    go_wp2_with fail
    refine (l02Own_any _ _ A c xs _ k1 (ha.up hb1) hl).mono ?_; rintro e w2 ⟨B, d, rfl, ho, hb2⟩
    obtain ⟨g, rfl, hg, hglt⟩ := own_at ho (show 0 < xs.length by omega)
    have hd := (own_cap ho).1
    have m2 := cell_later hb2 k2
    have m3 := cell_later hb2 k3
    have z2 := hb2.size
    have T2 := bs T1 hb2
    have hox := ho.alloc (.cells #[.slice (some ⟨g, 0, none⟩) xs.length d] 26)
    have m2' := cell_alloc m2 (.cells #[.slice (some ⟨g, 0, none⟩) xs.length d] 26)
    have m3' := cell_alloc m3 (.cells #[.slice (some ⟨g, 0, none⟩) xs.length d] 26)
    have kx : World.cell? (w2.alloc (.cells #[.slice (some ⟨g, 0, none⟩) xs.length d] 26)) ⟨w2.heap.size, 0, none⟩ = some (.slice (some ⟨g, 0, none⟩) xs.length d) := cell_new rfl rfl
    have zt : w.heap.size + 1 + 1 < w1.heap.size := by omega
    have hgne : ¬ g = w2.heap.size := by omega
    go_wp2
    go_loopw [8] (fun q wr => ∃ k : Nat, i ≤ k ∧ k ≤ j ∧ q = .int .i64 (k : Int) ∧ wr.ownsRow w1.heap.size 2 1 (.slice (some ⟨g, 0, none⟩) xs.length d) xs.length (ints (tornL xs i k)) ∧ Below w1.heap.size w1 wr ∧
        wr.cell? ⟨w2.heap.size, 0, none⟩ = some (.slice (some ⟨g, 0, none⟩) xs.length d) ∧ w2.heap.size < wr.heap.size) (fun q _ => j - (intOf q).toNat)
    case atStart => exact ⟨i, Nat.le_refl _, by omega, rfl, by rw [tornL_self]; exact hox, hb2.alloc (by omega) _, by simp, by simp⟩
    case round =>
      obtain ⟨k, hik, hkj, rfl, hown, hbw, k5, zw⟩ := hrel
      have q2 := cell_later hbw k2
      have q3 := cell_later hbw k3
      by_cases hlt : k < j
      · have hkl : k < xs.length := by omega
        have hcy := own_cell hown k (by rw [ints_length, tornL_length (by omega) (by omega)]; exact hkl)
        have hfy := hown.frozenAt k
        have hst := ownsRow_set hown k (.int .i64 0)
        rw [← ints_set, tornL_step hik hkl] at hst
        clear hown
        go_wp2
        go_roundw
        case rel => exact ⟨k + 1, by omega, by omega, by go_num, hst, bset hbw _ _ _ hg, set_far k5 hgne, by simp; omega⟩
        case measure => simp [intOf]; omega
      · obtain rfl : k = j := by omega
        have q4 := cell_later hbw k4
        have g4 : wr.frozen? ⟨w.heap.size + 1 + 1, 0, none⟩ = false := (hbw.frozen (p := ⟨w.heap.size + 1 + 1, 0, none⟩) (by simp only; omega)).trans f4
        go_wp2
        refine bodyPost_ret (v := .tuple #[.agg #[.slice (some ⟨g, 0, none⟩) xs.length d], .int .i64 0]) (by simp [results, Try.results41, go_sem, *]) rfl ?_
        rw [hr.out, hrl.out, hz]
        exact ⟨_, d, rfl, own_base (own_below hown _ _ _ (by omega)) (by omega), bset (bs T1 hbw) _ _ _ (by omega)⟩
  · have hr := Lib.hid (show tornRes xs a b = [] by unfold tornRes; rw [if_neg hz])
    go_enter Try.func41, Try.ntmps41
    go_wp2_with fail
    refine (l02Code_any _ _ A c xs _ _ _ (cell_alloc (cell_alloc (cell_new rfl rfl) _) _) ha hl).mono ?_; rintro e w1 ⟨rfl, hb1⟩
    have k4 : w1.cell? ⟨w.heap.size + 1 + 1, 0, none⟩ = some (.slice none 0 0) := cell_later hb1 (cell_new (by simp) rfl)
    have f4 : w1.frozen? ⟨w.heap.size + 1 + 1, 0, none⟩ = false := froz_later hb1 (froz_new (by simp)) (by simp)
    go_wp2
    refine bodyPost_ret (v := .tuple #[.agg #[.slice none 0 0], .int .i64 (fieldC xs a b)]) (by simp [results, Try.results41, go_sem, *]) rfl ?_
    rw [hr.out]
    exact ⟨none, 0, rfl, World.ownsRow_nil _ _ _ _, bset (bs T0 hb1) _ _ _ (by omega)⟩
end Go.Proofs.Ythbgdnjlmaadjaa
