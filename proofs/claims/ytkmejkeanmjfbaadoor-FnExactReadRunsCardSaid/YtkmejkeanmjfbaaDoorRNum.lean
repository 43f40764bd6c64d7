/- Numbers and words of texts: the plain laws of decimal texts; spec.l01Number, spec.l01Split. -/
import Derived.Test.YtkmejkeanmjfbaaDoorRunsLaw
import Derived.Lib.ParseIntBTie
namespace Go.Proofs.YtkmejkeanmjfbaaDoor
open Go.RowKit

/-! ### plain -/
def valD (l : List UInt8) : Nat := l.foldl (fun a c => 10 * a + (c.toNat - 48)) 0
theorem valD_snoc (l : List UInt8) (c : UInt8) : valD (l ++ [c]) = 10 * valD l + (c.toNat - 48) := by simp [valD]
theorem valD_digits (u : Nat) : valD (Lib.decDigits u) = u := by
  induction u using Nat.strongRecOn with
  | _ u ih =>
    rw [Lib.decDigits]
    by_cases h : u < 10
    · rw [dif_pos h]
      have : (48 + u) % 256 = 48 + u := Nat.mod_eq_of_lt (by omega)
      simp [valD, UInt8.toNat_ofNat', this]
    · rw [dif_neg h, valD_snoc, ih (u / 10) (by omega)]
      have : (48 + u % 10) % 256 = 48 + u % 10 := Nat.mod_eq_of_lt (by omega)
      simp only [UInt8.toNat_ofNat', this]
      omega
def digL (l : List UInt8) : Bool := l.all fun c => digB (c.toNat : Int)
theorem digL_snoc (l : List UInt8) (c : UInt8) : digL (l ++ [c]) = (digL l && digB (c.toNat : Int)) := by simp [digL]
theorem digL_bad {l : List UInt8} {k : Nat} (h : k < l.length) (hb : digB (l[k].toNat : Int) = false) : digL l = false := List.all_eq_false.2 ⟨l[k], List.getElem_mem h, by simp [hb]⟩
theorem digB_range {n : Int} (h : digB n = true) : 48 ≤ n ∧ n ≤ 57 := by
  unfold digB at h
  simpa using h
theorem valD_lt (l : List UInt8) : ∀ k, k ≤ l.length → digL (l.take k) = true → valD (l.take k) < 10 ^ k
  | 0, _, _ => by simp [valD]
  | k + 1, hk, h => by
    rw [List.take_succ_eq_append_getElem (by omega)] at h ⊢
    rw [digL_snoc, Bool.and_eq_true] at h
    have h2 := digB_range h.2
    have := valD_lt l k (by omega) h.1
    rw [valD_snoc, Nat.pow_succ]
    omega
theorem t20_facts : ∀ a : Fin 21, digL (t20 a.val) = true ∧ (t20 a.val).head? ≠ some 45 ∧ 1 ≤ (t20 a.val).length ∧ (t20 a.val).length ≤ 2 ∧ valD (t20 a.val) = a.val := by decide +kernel
theorem itoa_is_t20 {v : Int} {m : Nat} (hm : m ≤ 20) (h : Lib.itoa v = t20 m) : v = m := by
  have hf := t20_facts ⟨m, by omega⟩
  simp only at hf
  unfold Lib.itoa at h
  by_cases hv : v < 0
  · rw [if_pos hv] at h
    rw [← h] at hf
    exact absurd rfl hf.2.1
  · rw [if_neg hv] at h
    have := valD_digits v.toNat
    rw [h, hf.2.2.2.2] at this
    omega
/-- What a number's text says of the numbers from 1 to 20. -/
theorem numD_itoa {t : List UInt8} {v : Int} (h : t = Lib.itoa v) : numD t = if 1 ≤ v ∧ v ≤ 20 then some v.toNat else none := by
  by_cases hv : 1 ≤ v ∧ v ≤ 20
  · rw [if_pos hv, numD_iff]
    refine ⟨by omega, by omega, ?_⟩
    rw [h, ← itoa_t20 (n := v.toNat) (by omega), show ((v.toNat : Nat) : Int) = v by omega]
  · rw [if_neg hv]
    cases hn : numD t with
    | none => rfl
    | some m =>
      obtain ⟨h1, h2, h3⟩ := numD_iff.1 hn
      have := itoa_is_t20 h2 (h ▸ h3)
      omega
/-- A text that no number from 0 to 20 has. -/
def NoT (t : List UInt8) : Prop := ∀ m, m ≤ 20 → t ≠ t20 m
theorem numD_no {t : List UInt8} (h : NoT t) : numD t = none := by
  cases hn : numD t with
  | none => rfl
  | some m =>
    obtain ⟨h1, h2, h3⟩ := numD_iff.1 hn
    exact absurd h3 (h m h2)
theorem t20_parse : ∀ a : Fin 21, Lib.parseIntB 64 (t20 a.val) = .ok (a.val : Int) := by decide +kernel
theorem noT_len {t : List UInt8} (h : t.length < 1 ∨ 18 < t.length) : NoT t := fun m hm e => by
  have hf := t20_facts ⟨m, by omega⟩
  simp only at hf
  rw [← e] at hf
  omega
theorem noT_minus {t : List UInt8} (h : t.head? = some 45) : NoT t := fun m hm e => by
  have hf := t20_facts ⟨m, by omega⟩
  simp only at hf
  rw [← e] at hf
  exact hf.2.1 h
theorem noT_digit {t : List UInt8} (h : digL t = false) : NoT t := fun m hm e => by
  have hf := t20_facts ⟨m, by omega⟩
  simp only at hf
  rw [← e, h] at hf
  exact absurd hf.1 (by simp)
theorem noT_val {t : List UInt8} (h : Lib.itoa (valD t : Int) ≠ t) : NoT t := fun m hm e => by
  have hf := t20_facts ⟨m, by omega⟩
  simp only at hf
  rw [← e] at hf
  apply h
  rw [hf.2.2.2.2, itoa_t20 (by omega), e]
theorem noT_parse {t : List UInt8} (h : ∀ v, Lib.parseIntB 64 t = .ok v → Lib.itoa v ≠ t) : NoT t := fun m hm e => by
  have hf := t20_parse ⟨m, by omega⟩
  simp only at hf
  rw [← e] at hf
  exact h _ hf (by rw [itoa_t20 (by omega), e])
theorem noT_parse_err {t : List UInt8} (h : ∀ v, Lib.parseIntB 64 t ≠ .ok v) : NoT t := noT_parse fun v e => absurd e (h v)
/-- What a reading of a number says. -/
def NumP (t : List UInt8) (e : Ending) : Prop := (∃ v : Int, e = .returned (.tuple #[.int .i64 v, .bool true]) ∧ t = Lib.itoa v ∧ -9223372036854775808 ≤ v ∧ v ≤ 9223372036854775807) ∨ (e = .returned (.tuple #[.int .i64 0, .bool false]) ∧ NoT t)
theorem byt_ext (s : ByteArray) (i j : Nat) : byt (s.extract i j) = ((byt s).take j).drop i := by
  simp [byt, ByteArray.data_extract, Array.toList_extract, List.extract_eq_take_drop, List.drop_take]
theorem bs_byt (s : ByteArray) : bs_ (byt s) = s := ByteArray.ext (by simp [bs_, byt])
end Go.Proofs.YtkmejkeanmjfbaaDoor
