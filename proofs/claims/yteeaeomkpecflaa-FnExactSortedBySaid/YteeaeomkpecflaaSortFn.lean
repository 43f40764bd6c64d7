/- slices.SortStableFunc over []int64 on a row of the call's own of at most 40 numbers, at a closure that compares by keys. -/
import Derived.Test.YteeaeomkpecflaaStab
import Derived.Test.YteeaeomkpecflaaLater
import Derived.Test.YteeaeomkpecflaaBasics
import Derived.RegionTactic
import Derived.BigRegion
namespace Go.Proofs.Yteeaeomkpecflaa
open Go.RowKit

/-- The row of the call's own: n numbers. -/
def Row (w : World) (base g n c : Nat) (f : Nat → Int) : Prop := w.ownsRow base 2 1 (.slice (some ⟨g, 0, none⟩) n c) n (ints (rowF f n))
theorem ints_set (xs : List Int) (k : Nat) (v : Int) : ints (xs.set k v) = (ints xs).set k (.int .i64 v) := by simp [ints, List.map_set]
theorem Row.cell {w : World} {base g n c : Nat} {f : Nat → Int} (h : Row w base g n c f) {k : Nat} (hk : k < n) : w.cell? ⟨g, k, none⟩ = some (.int .i64 (f k)) := by
  have h1 := own_cell h k (by rw [ints_length, rowF_length]; exact hk)
  rw [h1]
  simp [ints, rowF]
theorem Row.sw {w : World} {base g n c : Nat} {f : Nat → Int} (h : Row w base g n c f) {i j : Nat} : Row ((w.setCell ⟨g, j, none⟩ (.int .i64 (f i))).setCell ⟨g, i, none⟩ (.int .i64 (f j))) base g n c (fsw f i j) := by
  unfold Row
  rw [rowF_fsw, ints_set, ints_set]
  exact ownsRow_set (ownsRow_set h j _) i _
theorem fsw_comm (f : Nat → Int) (i j : Nat) : fsw f i j = fsw f j i := by
  funext k
  unfold fsw
  repeat' split
  all_goals first | rfl | (congr 1 <;> omega) | omega
theorem Row.sw' {w : World} {base g n c : Nat} {f : Nat → Int} (h : Row w base g n c f) {i j : Nat} : Row ((w.setCell ⟨g, i, none⟩ (.int .i64 (f j))).setCell ⟨g, j, none⟩ (.int .i64 (f i))) base g n c (fsw f i j) := by
  rw [fsw_comm]
  exact Row.sw h
theorem Row.grown {w : World} {base g n c : Nat} {f : Nat → Int} (h : Row w base g n c f) (i j : Nat) (u v : Value) : w.grownBy ((w.setCell ⟨g, i, none⟩ u).setCell ⟨g, j, none⟩ v) (some g) :=
  grown_trans (h.stored i u).2 ((ownsRow_set h i u).stored j v).2
theorem Row.bs {w w' : World} {base g n c : Nat} {f : Nat → Int} (h : Row w base g n c f) (hb : Below w.heap.size w w') : Row w' base g n c f := own_bs h hb
theorem Row.froz {w : World} {base g n c : Nat} {f : Nat → Int} (h : Row w base g n c f) (k : Nat) : w.frozen? ⟨g, k, none⟩ = false := h.frozenAt k
theorem grown_drew {a b : World} {row : Option Nat} (h : a.grownBy b row) : a.grownBy b.drew row := ⟨h.os, h.tape, h.output, h.size, h.block⟩
/-- The second store of an exchange finds its cell. -/
theorem Row.two {w : World} {base g n c : Nat} {f : Nat → Int} (h : Row w base g n c f) {p q : Nat} {v : Int} (hv : v = f q) (hq : q < n) : (w.setCell ⟨g, p, none⟩ (.int .i64 v)).drew.cell? ⟨g, q, none⟩ = some (.int .i64 v) := by
  have h1 := ownsRow_set h p (.int .i64 v)
  rw [← ints_set] at h1
  have h2 := own_cell h1 q (by rw [ints_length, List.length_set, rowF_length]; exact hq)
  show (w.setCell ⟨g, p, none⟩ (.int .i64 v)).cell? ⟨g, q, none⟩ = _
  rw [h2]
  simp only [ints, List.getElem_map, List.getElem_set]
  split
  · rfl
  · rw [rowF_get _ _ _ hq, hv]
theorem grown_below {a w w' : World} {g : Nat} (h : a.grownBy w (some g)) (hb : Below w.heap.size w w') : a.grownBy w' (some g) :=
  grown_trans h ⟨hb.os, hb.tape, hb.output, hb.size, fun k hk _ => hb.block k hk⟩

set_option maxRecDepth 20000 in
set_option maxHeartbeats 4000000 in
theorem swapRange_any (base g n c a b t : Nat) (cv : Value) (f : Nat → Int) (w : World) (h : Row w base g n c f) (ha : a + t ≤ n) (hb : b + t ≤ n) (hn : n ≤ 1048576) :
    Calls Try.prog 160 #[.slice (some ⟨g, 0, none⟩) n c, .int .i64 a, .int .i64 b, .int .i64 t, cv] w fun e w' => e = .returned (.tuple #[]) ∧ Row w' base g n c (swR a b t f) ∧ w.grownBy w' (some g) := by
  go_enter Try.func160, Try.ntmps160
  go_wp2
  go_loopw [10] (fun i wr => ∃ k : Nat, k ≤ t ∧ i = .int .i64 k ∧ Row wr base g n c (swR a b k f) ∧ w.grownBy wr (some g)) (fun i _ => t - (intOf i).toNat)
  case atStart => exact ⟨0, by omega, rfl, h, World.grownBy.refl w _⟩
  case round =>
    obtain ⟨wo, rfl⟩ : ∃ wo : World, wo = wr := ⟨_, rfl⟩
    obtain ⟨k, hk, rfl, hrow, hgr⟩ := hrel
    by_cases hlt : k < t
    · obtain ⟨F, hF⟩ : ∃ F, F = swR a b k f := ⟨_, rfl⟩
      have HS := Lib.hid (show swR a b (k + 1) f = fsw F (a + k) (b + k) by rw [hF]; rfl)
      rw [← hF] at hrow
      have HROW := Lib.hid hrow
      obtain ⟨p, hp⟩ : ∃ p, p = a + k := ⟨_, rfl⟩
      obtain ⟨q, hq⟩ : ∃ q, q = b + k := ⟨_, rfl⟩
      rw [← hp, ← hq] at HS
      have c1 := hrow.cell (show p < n by omega)
      have c2 := hrow.cell (show q < n by omega)
      have g1 := hrow.froz p
      have g2 := hrow.froz q
      obtain ⟨u, hu⟩ : ∃ u, u = F p := ⟨_, rfl⟩
      obtain ⟨v, hv⟩ : ∃ v, v = F q := ⟨_, rfl⟩
      rw [← hu] at c1
      rw [← hv] at c2
      have i1 : (a : Int) + (k : Int) = (p : Int) := by omega
      have i2 : (b : Int) + (k : Int) = (q : Int) := by omega
      have i3 : (p : Int) < (n : Int) := by omega
      have i4 : (q : Int) < (n : Int) := by omega
      have HU := Lib.hid hu
      have HV := Lib.hid hv
      have c3 := hrow.two (p := p) hv (show q < n by omega)
      clear hF hu hv hrow hp hq
      go_wp2_with fail
      go_region
      go_wp2
      go_roundw
      case rel =>
        refine ⟨k + 1, by omega, by go_num, ?_, ?_⟩
        · rw [HS.out, HU.out, HV.out]
          exact HROW.out.sw'
        · exact grown_drew (grown_trans hgr (HROW.out.grown p q _ _))
      case measure => simp [intOf]; omega
    · obtain rfl : k = t := by omega
      go_wp2
      go_end0
      exact ⟨rfl, hrow, hgr⟩
theorem swapRange_z (base g n c : Nat) (za zb zt : Int) (cv : Value) (f : Nat → Int) (w : World) (a b t : Nat) (h1 : za = (a : Int)) (h2 : zb = (b : Int)) (h3 : zt = (t : Int)) (h : Row w base g n c f) (ha : a + t ≤ n) (hb : b + t ≤ n) (hn : n ≤ 1048576) :
    Calls Try.prog 160 #[.slice (some ⟨g, 0, none⟩) n c, .int .i64 za, .int .i64 zb, .int .i64 zt, cv] w fun e w' => e = .returned (.tuple #[]) ∧ Row w' base g n c (swR a b t f) ∧ w.grownBy w' (some g) := by
  subst h1 h2 h3
  exact swapRange_any base g n c a b t cv f w h ha hb hn

set_option maxRecDepth 20000 in
set_option maxHeartbeats 4000000 in
theorem rotate_any (base g n c a m b : Nat) (cv : Value) (f : Nat → Int) (w : World) (h : Row w base g n c f) (ham : a < m) (hmb : m < b) (hb : b ≤ n) (hn : n ≤ 1048576) :
    Calls Try.prog 155 #[.slice (some ⟨g, 0, none⟩) n c, .int .i64 a, .int .i64 m, .int .i64 b, cv] w fun e w' => e = .returned (.tuple #[]) ∧ Row w' base g n c (rot m (m - a) (b - m) f) ∧ w.grownBy w' (some g) := by
  go_enter Try.func155, Try.ntmps155
  go_wp2
  go_loopw [10, 11] (fun vi vj wr => ∃ (i j : Nat) (F : Nat → Int), 0 < i ∧ 0 < j ∧ i ≤ m ∧ m + j ≤ n ∧ vi = .int .i64 i ∧ vj = .int .i64 j ∧ rot m i j F = rot m (m - a) (b - m) f ∧ Row wr base g n c F ∧ w.grownBy wr (some g)) (fun vi vj _ => (intOf vi).toNat + (intOf vj).toNat)
  case atStart => exact ⟨m - a, b - m, f, by omega, by omega, by omega, by omega, by go_num, by go_num, rfl, h, World.grownBy.refl w _⟩
  case round =>
    obtain ⟨wo, rfl⟩ : ∃ wo : World, wo = wr := ⟨_, rfl⟩
    obtain ⟨i, j, F, hi, hj, him, hjn, rfl, rfl, hrot, hrow, hgr⟩ := hrel
    have HR := Lib.hid hrot
    clear hrot
    by_cases he : i = j
    · have e1 : ((i : Int) != (j : Int)) = false := bne_f (by omega)
      have HE := Lib.hid (show rot m (m - a) (b - m) f = swR (m - i) m i F by rw [← HR.out, rot, dif_pos (.inl he)])
      have b2 : m + i ≤ n := by omega
      clear he
      go_wp2_with fail
      refine (swapRange_z base g n c _ _ _ cv F _ (m - i) m i (by omega) rfl rfl hrow (by omega) (by omega) hn).mono ?_; rintro e w1 ⟨rfl, hr1, hg1⟩
      go_wp2
      go_end0
      exact ⟨rfl, by rw [HE.out]; exact hr1, grown_trans hgr hg1⟩
    · have e1 : ((i : Int) != (j : Int)) = true := bne_t (by omega)
      by_cases hlt : j < i
      · have HE := Lib.hid (show rot m (i - j) j (swR (m - i) m j F) = rot m (m - a) (b - m) f by rw [← HR.out]; conv => rhs; rw [rot, dif_neg (by omega), if_pos hlt])
        have i1 : (j : Int) < (i : Int) := by omega
        clear he
        go_wp2_with fail
        refine (swapRange_z base g n c _ _ _ cv F _ (m - i) m j (by omega) rfl rfl hrow (by omega) (by omega) hn).mono ?_; rintro e w1 ⟨rfl, hr1, hg1⟩
        go_wp2
        go_roundw
        case rel => exact ⟨i - j, j, _, by omega, by omega, by omega, by omega, by go_num, rfl, HE.out, hr1, grown_trans hgr hg1⟩
        case measure => simp [intOf]; omega
      · have HE := Lib.hid (show rot m i (j - i) (swR (m - i) (m + j - i) i F) = rot m (m - a) (b - m) f by rw [← HR.out]; conv => rhs; rw [rot, dif_neg (by omega), if_neg hlt])
        have i1 : ¬ (j : Int) < (i : Int) := by omega
        have HLT := Lib.hid (show i < j by omega)
        clear he
        go_wp2_with fail
        refine (swapRange_z base g n c _ _ _ cv F _ (m - i) (m + j - i) i (by omega) (by omega) rfl hrow (by omega) (by omega) hn).mono ?_; rintro e w1 ⟨rfl, hr1, hg1⟩
        go_wp2
        go_roundw
        case rel => exact ⟨i, j - i, _, by omega, by have := HLT.out; omega, by omega, by omega, rfl, by go_num, HE.out, hr1, grown_trans hgr hg1⟩
        case measure => simp [intOf]; omega
theorem rotate_z (base g n c : Nat) (za zm zb : Int) (cv : Value) (f : Nat → Int) (w : World) (a m b : Nat) (h1 : za = (a : Int)) (h2 : zm = (m : Int)) (h3 : zb = (b : Int)) (h : Row w base g n c f) (ham : a < m) (hmb : m < b) (hb : b ≤ n) (hn : n ≤ 1048576) :
    Calls Try.prog 155 #[.slice (some ⟨g, 0, none⟩) n c, .int .i64 za, .int .i64 zm, .int .i64 zb, cv] w fun e w' => e = .returned (.tuple #[]) ∧ Row w' base g n c (rot m (m - a) (b - m) f) ∧ w.grownBy w' (some g) := by
  subst h1 h2 h3
  exact rotate_any base g n c a m b cv f w h ham hmb hb hn
end Go.Proofs.Yteeaeomkpecflaa
