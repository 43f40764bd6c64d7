/- Decimal numerals: impl.Decimal (strconv.FormatInt by the shelf's contract) and spec.l01Dec. -/
import Derived.Test.YtkmejkeanmjfbaaGreatDoorKd10
import Derived.Test.YtkmejkeanmjfbaaGreatDoorShelf
import Derived.Lib.ItoaNum
import Derived.Lib.AppendIntMem
/-! ### Dec -/
namespace Go.Proofs.YtkmejkeanmjfbaaGreatDoor
open Go.RowKit

/-! ### plain laws -/
def decZ (u : Nat) : List UInt8 := if u = 0 then [] else Lib.decDigits u
theorem decZ_zero : decZ 0 = [] := rfl
theorem decZ_step {u : Nat} (h : u ≠ 0) : decZ u = decZ (u / 10) ++ [UInt8.ofNat (48 + u % 10)] := by
  unfold decZ
  rw [if_neg h, Lib.decDigits]
  by_cases h1 : u < 10
  · rw [dif_pos h1, if_pos (by omega), Nat.mod_eq_of_lt h1]; rfl
  · rw [dif_neg h1, if_neg (by omega)]
theorem nDigits_le : ∀ (k u : Nat), u < 10 ^ (k + 1) → Lib.nDigits u ≤ k + 1
  | 0, u, h => by rw [Lib.nDigits_small (by simpa using h)]; omega
  | k + 1, u, h => by
    by_cases h1 : u < 10
    · rw [Lib.nDigits_small h1]; omega
    · rw [Lib.nDigits_big h1]
      have := nDigits_le k (u / 10) (by rw [Nat.pow_succ] at h; omega)
      omega
theorem decDigits_short {u : Nat} (h : u < 10 ^ 20) : (Lib.decDigits u).length ≤ 20 := by
  rw [Lib.decDigits_length]; exact nDigits_le 19 u h
theorem decZ_short {u : Nat} (h : u < 10 ^ 20) : (decZ u).length ≤ 20 := by
  unfold decZ
  by_cases h1 : u = 0
  · rw [if_pos h1]; simp
  · rw [if_neg h1]; exact decDigits_short h
theorem decZ_zero_iff {u : Nat} (h : decZ u = []) : u = 0 := by
  by_cases h1 : u = 0
  · exact h1
  · rw [decZ_step h1] at h; simp at h
theorem itoa_short {n : Int} (h0 : -9223372036854775808 ≤ n) (h1 : n ≤ 9223372036854775807) : (Lib.itoa n).length ≤ 21 := by
  unfold Lib.itoa
  by_cases h : n < 0
  · rw [if_pos h]
    have := decDigits_short (u := n.natAbs) (by omega)
    simp only [List.length_cons]; omega
  · rw [if_neg h]
    have := decDigits_short (u := n.toNat) (by omega)
    omega
theorem itoa_ne (n : Int) : Lib.itoa n ≠ [] := by
  have h : ∀ u, Lib.decDigits u ≠ [] := fun u hu => by
    have := Lib.decDigits_length u
    have h2 := Lib.nDigits_pos u
    rw [hu] at this
    simp at this
    omega
  unfold Lib.itoa
  by_cases hn : n < 0
  · rw [if_pos hn]; simp
  · rw [if_neg hn]; exact h _

/-! ### the program's -/
theorem Decimal_any (n : Int) (w : World) (h0 : -9223372036854775808 ≤ n) (h1 : n ≤ 9223372036854775807) (htab : Lib.TabIs Tryz.prog w "internal/strconv.uint64pow10" .u64 Lib.pow10Tab) :
    Calls Tryz.prog 53 #[.int .i64 n] w fun e w' => e = .returned (.string (bs_ (Lib.itoa n))) ∧ Below w.heap.size w w' := by
  go_enter Tryz.func53, Tryz.ntmps53
  go_wp2_with fail
  refine (Tryz.strconv_FormatInt_10 n h0 h1 _ htab).mono ?_; rintro e w1 ⟨rfl, k, os, rfl⟩
  have HB := Lib.hid (Lib.below_grow w.heap.size w (Nat.le_refl _) k os)
  obtain ⟨W, hW⟩ : ∃ W, W = Sort.grow (w.drewN k) os := ⟨_, rfl⟩
  rw [← hW] at HB ⊢
  clear hW
  go_wp2
  go_ret
  exact ⟨rfl, HB.out⟩
theorem ret_t {s : List UInt8} {b : ByteArray} (h : b = bs_ s) : Ending.returned (.string b) = .returned (.string (bs_ s)) := by rw [h]
theorem cat_bs (a b : List UInt8) : bs_ a ++ bs_ b = bs_ (a ++ b) := by
  apply ByteArray.ext
  simp [bs_]
theorem byts_one (s : List UInt8) : ∀ u ∈ byts s, u.oneCell' = true := by
  intro v hv
  simp only [byts, List.mem_map] at hv
  obtain ⟨b, _, rfl⟩ := hv
  rfl
theorem own_some {w : World} {base : Nat} {e : TypeId} {size n cap : Nat} {A : Option Addr} {xs : List Value} (h : w.ownsRow base e size (.slice A n cap) n xs) (hn : 0 < n) : ∃ g, A = some ⟨g, 0, none⟩ := by
  rcases h.2 with ⟨hv, hx⟩ | ⟨g, c, cur, hv, _⟩
  · exfalso
    have := h.1
    rw [hx] at this
    injection hv
    omega
  · injection hv with hA
    exact ⟨g, hA⟩

set_option maxRecDepth 20000 in
set_option maxHeartbeats 4000000 in
theorem l01Dec_any (n : Int) (w : World) (h0 : -9223372036854775808 ≤ n) (h1 : n ≤ 9223372036854775807) :
    Calls Tryz.prog 99 #[.int .i64 n] w fun e w' => e = .returned (.string (bs_ (Lib.itoa n))) ∧ Below w.heap.size w w' := by
  obtain ⟨j0, hj, hj0, hj1, hj2⟩ := info_parts info_u8K
  go_enter Tryz.func99, Tryz.ntmps99
  go_wp2
  go_loopw [3, 4] (fun s x wr => ∃ (z : Int) (k g cg : Nat) (L : List UInt8), L.length = k ∧ decZ z.natAbs ++ L = decZ n.natAbs ∧ -9223372036854775808 ≤ z ∧ z ≤ 9223372036854775807 ∧ x = .int .i64 z ∧ s = .slice (some ⟨g, 0, none⟩) k cg ∧ wr.ownsRow w.heap.size 5 1 (.slice (some ⟨g, 0, none⟩) k cg) k (byts L) ∧ Below w.heap.size w wr) (fun _ x _ => (intOf x).natAbs)
  case atStart => exact ⟨n, 0, w.heap.size, 0, [], rfl, by simp, h0, h1, rfl, rfl, own_lit w #[] 0 rfl (Nat.le_refl _) (by omega) rfl, ba (b0 w) (.cells #[] 5)⟩
  case round =>
    obtain ⟨wo, rfl⟩ : ∃ wo : World, wo = wr := ⟨_, rfl⟩
    obtain ⟨z, k, g, cg, L, hk, hz, z0, z1, rfl, rfl, hown, hbw⟩ := hrel
    have hlen : k ≤ 20 := by
      have h := congrArg List.length hz
      rw [List.length_append] at h
      have := decZ_short (u := n.natAbs) (by omega)
      omega
    have hbase := hbw.size
    by_cases hzz : z = 0
    · subst hzz
      rw [show (0 : Int).natAbs = 0 from rfl, decZ_zero, List.nil_append] at hz
      by_cases hn0 : n = 0
      · subst hn0
        obtain rfl : L = [] := by rw [hz]; rfl
        obtain rfl : k = 0 := by rw [← hk]; rfl
        have HE := Lib.hid (show Lib.itoa 0 = [48] by rw [Lib.itoa, if_neg (by decide), show ((0 : Int).toNat) = 0 from rfl, Lib.decDigits_one (by omega)]; rfl)
        go_wp2
        go_ret
        exact ⟨ret_t (by rw [HE.out]; rfl), hbw⟩
      · have hkp : ¬ k = 0 := fun e => by
          have : L = [] := List.eq_nil_of_length_eq_zero (by omega)
          rw [this] at hz
          have := decZ_zero_iff hz.symm
          omega
        have hL : L = Lib.decDigits n.natAbs := by rw [hz]; unfold decZ; rw [if_neg (by omega)]
        have hconv := conv_text hown
        have i0 : ¬ (k : Int) = 0 := by omega
        by_cases hneg : n < 0
        · have hsz : ¬ 9223372036854775807 < (⟨#[45]⟩ : ByteArray).size + (bs_ L).size := by
            have : (bs_ L).size = k := by rw [← hk]; simp [bs_, ByteArray.size]
            rw [this, show (⟨#[45]⟩ : ByteArray).size = 1 from rfl]; omega
          have HE := Lib.hid (show Lib.itoa n = 45 :: L by unfold Lib.itoa; rw [if_pos hneg, hL])
          clear hown hz hL
          go_wp2
          go_ret
          exact ⟨ret_t (by rw [HE.out]; exact cat_bs [45] L), hbw⟩
        · have HE := Lib.hid (show Lib.itoa n = L by unfold Lib.itoa; rw [if_neg hneg, hL, show n.natAbs = n.toNat by omega])
          clear hown hz hL
          go_wp2
          go_ret
          exact ⟨ret_t (by rw [HE.out]), hbw⟩
    · have hra : (z.tmod 10).natAbs = z.natAbs % 10 := by rw [Int.natAbs_tmod]; rfl
      have hqa : (z.tdiv 10).natAbs = z.natAbs / 10 := by rw [Int.natAbs_tdiv]; rfl
      have g1 : (z != 0) = true := by simpa using hzz
      obtain ⟨d, hd⟩ : ∃ d, d = z.natAbs % 10 := ⟨_, rfl⟩
      have hd9 : d < 10 := by omega
      have HC0 := Lib.hid (show [.int .u8 (48 + (d : Int))] ++ byts L = byts (UInt8.ofNat (48 + d) :: L) by
        have : (48 + d) % 256 = 48 + d := Nat.mod_eq_of_lt (by omega)
        simp [byts, UInt8.toNat_ofNat', this])
      have HZ := Lib.hid (show decZ (z.tdiv 10).natAbs ++ (UInt8.ofNat (48 + d) :: L) = decZ n.natAbs by
        rw [← hz, decZ_step (u := z.natAbs) (by omega), hqa, hd]; simp)
      have HM := Lib.hid (show (z.tdiv 10).natAbs < z.natAbs by rw [hqa]; omega)
      have HQ := Lib.hid (show -9223372036854775808 ≤ z.tdiv 10 ∧ z.tdiv 10 ≤ 9223372036854775807 by omega)
      have HE := Lib.hid (show d < 10 ∧ (z.tmod 10).natAbs = d by omega)
      clear hra hqa hz hd hd9
      by_cases hneg : z.tmod 10 < 0
      · have HV := Lib.hid (show wrap64 (48 + wrap64 (-(z.tmod 10))) % 256 = 48 + (d : Int) by
          have := HE.out
          simp only [wrap64]
          omega)
        have HC := Lib.hid (show [Value.int .u8 (wrap64 (48 + wrap64 (-(z.tmod 10))) % 256)] ++ byts L = byts (UInt8.ofNat (48 + d) :: L) by rw [HV.out, HC0.out])
        have ow := own_lit wo #[.int .u8 (wrap64 (48 + wrap64 (-(z.tmod 10))) % 256)] 1 (base := w.heap.size) (H := wo.heap.size) (e := 5) (size := 1) rfl hbase (by omega) rfl
        have rr := (Rd.own hown).alloc (Nat.le_refl _) (.cells #[.int .u8 (wrap64 (48 + wrap64 (-(z.tmod 10))) % 256)] 5)
        have bo := ba hbw (.cells #[.int .u8 (wrap64 (48 + wrap64 (-(z.tmod 10))) % 256)] 5)
        clear hown
        go_wp2_with (at_builtin; refine wpList_aps rfl (.tmp 21) (.tmp 22) 22 rfl w.heap.size 5 j0 _ 1 1 Tryz.underlying22 hj hj0 hj1 hj2 rfl (by omega) _ 1 1 [.int .u8 (wrap64 (48 + wrap64 (-(z.tmod 10))) % 256)] _ rfl ow _ (some ⟨g, 0, none⟩) k cg (byts L) rfl rr (byts_one L) (by omega) (by omega) (by simp; omega) ?_; intro G cap w6 hown6 hb6 _)
        obtain ⟨gg, rfl⟩ := own_some hown6 (by omega)
        have HO := Lib.hid (show w6.ownsRow w.heap.size 5 1 (.slice (some ⟨gg, 0, none⟩) (1 + k) cap) (1 + k) (byts (UInt8.ofNat (48 + d) :: L)) by rw [← HC.out]; exact hown6)
        have HB := Lib.hid (bo.trans hb6)
        clear hown6 hb6 bo rr ow
        go_wp2
        go_roundw
        case rel => exact ⟨z.tdiv 10, 1 + k, gg, cap, UInt8.ofNat (48 + d) :: L, by simp; omega, HZ.out, HQ.out.1, HQ.out.2, rfl, rfl, HO.out, HB.out⟩
        case measure => exact HM.out
      · have HV := Lib.hid (show wrap64 (48 + z.tmod 10) % 256 = 48 + (d : Int) by
          have := HE.out
          simp only [wrap64]
          omega)
        have HC := Lib.hid (show [Value.int .u8 (wrap64 (48 + z.tmod 10) % 256)] ++ byts L = byts (UInt8.ofNat (48 + d) :: L) by rw [HV.out, HC0.out])
        have ow := own_lit wo #[.int .u8 (wrap64 (48 + z.tmod 10) % 256)] 1 (base := w.heap.size) (H := wo.heap.size) (e := 5) (size := 1) rfl hbase (by omega) rfl
        have rr := (Rd.own hown).alloc (Nat.le_refl _) (.cells #[.int .u8 (wrap64 (48 + z.tmod 10) % 256)] 5)
        have bo := ba hbw (.cells #[.int .u8 (wrap64 (48 + z.tmod 10) % 256)] 5)
        clear hown
        go_wp2_with (at_builtin; refine wpList_aps rfl (.tmp 21) (.tmp 22) 22 rfl w.heap.size 5 j0 _ 1 1 Tryz.underlying22 hj hj0 hj1 hj2 rfl (by omega) _ 1 1 [.int .u8 (wrap64 (48 + z.tmod 10) % 256)] _ rfl ow _ (some ⟨g, 0, none⟩) k cg (byts L) rfl rr (byts_one L) (by omega) (by omega) (by simp; omega) ?_; intro G cap w6 hown6 hb6 _)
        obtain ⟨gg, rfl⟩ := own_some hown6 (by omega)
        have HO := Lib.hid (show w6.ownsRow w.heap.size 5 1 (.slice (some ⟨gg, 0, none⟩) (1 + k) cap) (1 + k) (byts (UInt8.ofNat (48 + d) :: L)) by rw [← HC.out]; exact hown6)
        have HB := Lib.hid (bo.trans hb6)
        clear hown6 hb6 bo rr ow
        go_wp2
        go_roundw
        case rel => exact ⟨z.tdiv 10, 1 + k, gg, cap, UInt8.ofNat (48 + d) :: L, by simp; omega, HZ.out, HQ.out.1, HQ.out.2, rfl, rfl, HO.out, HB.out⟩
        case measure => exact HM.out
end Go.Proofs.YtkmejkeanmjfbaaGreatDoor
