/- The source of draws: next, pick, one. -/
import Derived.Test.YtdppmlchabogaaaWords
import Derived.Test.YtdppmlchabogaaaKeysAll
namespace Go.Proofs.Ytdppmlchabogaaa
open Go.RowKit

theorem Chg.set {lo hi : Nat} {w w' : World} (h : Chg lo hi w w') {b : Nat} (o : Nat) (v : Value) (h1 : lo ≤ b) (h2 : b < hi) : Chg lo hi w (w'.setCell ⟨b, o, none⟩ v) :=
  ⟨h.os, h.tape, h.output, by simpa [World.setCell] using h.size, fun k hk ho => (Below.heap_setCell w' ⟨b, o, none⟩ v k (by simp only; omega)).trans (h.block k hk ho)⟩
theorem Chg.drew {lo hi : Nat} {w w' : World} (h : Chg lo hi w w') : Chg lo hi w w'.drew := ⟨h.os, h.tape, h.output, h.size, h.block⟩

/-- A source of draws in block p: its bytes lie below p; at most K bytes have been asked for. -/
structure Src (w : World) (p K : Nat) (A : Option Addr) (n c at_ : Nat) (bs : List UInt8) (seed : Int) : Prop where
  code : w.cell? ⟨p, 0, none⟩ = some (.slice A n c)
  pos : w.cell? ⟨p, 1, none⟩ = some (.int .i64 (at_ : Int))
  sd : w.cell? ⟨p, 2, none⟩ = some (.int .u64 seed)
  f1 : w.frozen? ⟨p, 1, none⟩ = false
  f2 : w.frozen? ⟨p, 2, none⟩ = false
  rd : Rd w p 1 A n (byts bs)
  len : n ≤ 1048576
  le : at_ ≤ K
def SrcK (w : World) (p K : Nat) : Prop := ∃ A n c at_ bs seed, Src w p K A n c at_ bs seed
theorem SrcK.more {w : World} {p K K' : Nat} (h : SrcK w p K) (hk : K ≤ K') : SrcK w p K' := by
  obtain ⟨A, n, c, a, bs, sd, h⟩ := h
  exact ⟨A, n, c, a, bs, sd, h.code, h.pos, h.sd, h.f1, h.f2, h.rd, h.len, Nat.le_trans h.le hk⟩
theorem SrcK.lt {w : World} {p K : Nat} (h : SrcK w p K) : p < w.heap.size := by
  obtain ⟨A, n, c, a, bs, sd, h⟩ := h
  exact World.block_lt_of_cell? _ _ h.code
theorem SrcK.later {w w' : World} {p K : Nat} (h : SrcK w p K) (hb : Below w.heap.size w w') : SrcK w' p K := by
  have hlt := h.lt
  obtain ⟨A, n, c, a, bs, sd, h⟩ := h
  exact ⟨A, n, c, a, bs, sd, cell_later hb h.code, cell_later hb h.pos, cell_later hb h.sd, froz_later hb h.f1 hlt, froz_later hb h.f2 hlt, h.rd.bs (Nat.le_of_lt hlt) hb, h.len, h.le⟩
theorem SrcK.drew {w : World} {p K : Nat} (h : SrcK w p K) : SrcK w.drew p K := by
  obtain ⟨A, n, c, a, bs, sd, h⟩ := h
  exact ⟨A, n, c, a, bs, sd, h.code, h.pos, h.sd, h.f1, h.f2, h.rd, h.len, h.le⟩

theorem and255_range (s : Int) : 0 ≤ wrap64 (bits .and .u64 s 255) ∧ wrap64 (bits .and .u64 s 255) ≤ 255 := by
  have h : ∃ m : Nat, bits .and .u64 s 255 = (m : Int) ∧ m ≤ 255 := by
    refine ⟨(BitVec.ofInt 64 s &&& BitVec.ofInt 64 255).toNat, ?_, ?_⟩
    · show IntKind.u64.wrap ((BitVec.ofInt 64 s &&& BitVec.ofInt 64 255).toNat : Int) = _
      have h : (BitVec.ofInt 64 s &&& BitVec.ofInt 64 255).toNat ≤ 255 := by
        rw [BitVec.toNat_and]
        exact Nat.le_trans Nat.and_le_right (by decide)
      generalize (BitVec.ofInt 64 s &&& BitVec.ofInt 64 255).toNat = m at h ⊢
      simp [IntKind.wrap, IntKind.bits, IntKind.signed]
      omega
    · rw [BitVec.toNat_and]
      exact Nat.le_trans Nat.and_le_right (by decide)
  obtain ⟨m, h, hm⟩ := h
  rw [h]
  unfold wrap64
  omega

theorem set_src {w : World} {p K : Nat} {A : Option Addr} {n c a : Nat} {bs : List UInt8} {sd : Int} (k0 : w.cell? ⟨p, 0, none⟩ = some (.slice A n c)) (k1 : w.cell? ⟨p, 1, none⟩ = some (.int .i64 (a : Int))) (k2 : w.cell? ⟨p, 2, none⟩ = some (.int .u64 sd))
    (f1 : w.frozen? ⟨p, 1, none⟩ = false) (f2 : w.frozen? ⟨p, 2, none⟩ = false) (hrd : Rd w p 1 A n (byts bs)) (hlen : n ≤ 1048576) (hle : a ≤ K) {v : Int} (hv : v = ((a + 1 : Nat) : Int)) (sd' : Int) :
    SrcK ((w.setCell ⟨p, 1, none⟩ (.int .i64 v)).setCell ⟨p, 2, none⟩ (.int .u64 sd')) p (K + 1) ∧ Chg p (p + 1) w ((w.setCell ⟨p, 1, none⟩ (.int .i64 v)).setCell ⟨p, 2, none⟩ (.int .u64 sd')) := by
  subst hv
  refine ⟨⟨A, n, c, a + 1, bs, sd', ?_, ?_, ?_, ?_, ?_, (hrd.setCell (Nat.le_refl _) _).setCell (Nat.le_refl _) _, hlen, by omega⟩, ((Chg.refl _ _ _).set 1 _ (Nat.le_refl _) (by omega)).set 2 _ (Nat.le_refl _) (by omega)⟩
  · rw [World.cell?_setCell_other _ _ _ _ (by simp), World.cell?_setCell_other _ _ _ _ (by simp)]
    exact k0
  · rw [World.cell?_setCell_other _ _ _ _ (by simp)]
    exact World.cell?_setCell_same _ _ _ k1
  · exact World.cell?_setCell_same _ _ _ (u := .int .u64 sd) (by rw [World.cell?_setCell_other _ _ _ _ (by simp)]; exact k2)
  · simp [f1]
  · simp [f2]

set_option maxRecDepth 20000 in
theorem next_any (p K : Nat) (w : World) (h : SrcK w p K) (hK : K < 1099511627776) :
    Calls Try.prog 214 #[.pointer (some ⟨p, 0, none⟩)] w fun e w' => ∃ x : Nat, x ≤ 255 ∧ e = .returned (.int .i64 (x : Int)) ∧ SrcK w' p (K + 1) ∧ Chg p (p + 1) w w' := by
  have hlt := h.lt
  obtain ⟨A, n, c, a, bs, sd, h⟩ := h
  have k0 := h.code
  have k1 := h.pos
  have k2 := h.sd
  have f1 := h.f1
  have f2 := h.f2
  have hrd := h.rd
  have hle := h.le
  have hlen := h.len
  clear h
  go_enter Try.func214, Try.ntmps214
  have HR := Lib.hid hrd
  clear hrd
  have i2 : IntKind.i64.wrap ((a : Int) + 1) = ((a + 1 : Nat) : Int) := by rw [IntKind.wrap_i64]; omega
  by_cases hlt2 : a < n
  · have i1 : (a : Int) < (n : Int) := by omega
    have hbl : bs.length = n := by have := HR.out.len; rw [byts_length] at this; omega
    obtain ⟨b, off, hA, hb, hcell⟩ := HR.out.at_ hlt2
    obtain ⟨v, hv⟩ : ∃ v : Nat, v = (bs[a]'(by omega)).toNat := ⟨_, rfl⟩
    have hv255 : v ≤ 255 := by have := (bs[a]'(by omega)).toNat_lt; omega
    have d1 := hcell a _ (byts_get bs a (by omega))
    rw [← hv] at d1
    have HA := Lib.hid hA
    subst hA
    have i3 : ((a + 1 : Nat) : Int) ≤ (n : Int) := by omega
    clear hcell hv
    go_wp2
    go_region
    go_wp2
    go_region
    go_wp2
    go_region
    go_wp2
    go_ret
    have hs := set_src k0 k1 k2 f1 f2 HR.out hlen hle (v := (a : Int) + 1) (by omega)
    exact ⟨v, hv255, rfl, (hs _).1.drew.drew.drew, (hs _).2.drew.drew.drew⟩
  · have i1 : ¬ (a : Int) < (n : Int) := by omega
    have i3 : ¬ ((a + 1 : Nat) : Int) ≤ (n : Int) := by omega
    go_wp2
    go_region
    go_wp2
    go_region
    go_wp2
    go_ret
    obtain ⟨m, hm⟩ : ∃ m : Nat, wrap64 (bits .and .u64 (IntKind.u64.wrap (IntKind.u64.wrap (IntKind.u64.wrap (sd * 6364136223846793005)) + 1442695040888963407) / 1099511627776) 255) = (m : Int) := Int.eq_ofNat_of_zero_le (and255_range _).1
    have hm2 := (and255_range (IntKind.u64.wrap (IntKind.u64.wrap (IntKind.u64.wrap (sd * 6364136223846793005)) + 1442695040888963407) / 1099511627776)).2
    have hs := set_src k0 k1 k2 f1 f2 HR.out hlen hle (v := (a : Int) + 1) (by omega)
    exact ⟨m, by omega, by rw [← hm]; rfl, (hs _).1.drew.drew, (hs _).2.drew.drew⟩

theorem tmod_nat (m : Nat) {n : Int} (h : 1 < n) : ∃ x : Nat, Int.tmod (m : Int) n = (x : Int) ∧ (x : Int) < n := by
  obtain ⟨k, rfl⟩ := Int.eq_ofNat_of_zero_le (show 0 ≤ n by omega)
  refine ⟨m % k, by rw [← Int.ofNat_tmod], ?_⟩
  have := Nat.mod_lt m (show 0 < k by omega)
  omega
theorem Chg.then {lo hi B : Nat} {w a b : World} (h : Chg lo hi w a) (k : Below B a b) (hB : w.heap.size ≤ B) : Chg lo hi w b :=
  ⟨k.os.trans h.os, k.tape.trans h.tape, k.output.trans h.output, Nat.le_trans h.size k.size, fun i hi ho => (k.block i (by omega)).trans (h.block i hi ho)⟩
theorem SrcK.below {w w' : World} {p K B : Nat} (h : SrcK w p K) (hb : Below B w w') (hp : p < B) : SrcK w' p K := by
  obtain ⟨A, n, c, a, bs, sd, h⟩ := h
  exact ⟨A, n, c, a, bs, sd, (hb.cell (p := ⟨p, 0, none⟩) hp).trans h.code, (hb.cell (p := ⟨p, 1, none⟩) hp).trans h.pos, (hb.cell (p := ⟨p, 2, none⟩) hp).trans h.sd, (hb.frozen (p := ⟨p, 1, none⟩) hp).trans h.f1, (hb.frozen (p := ⟨p, 2, none⟩) hp).trans h.f2, h.rd.below (hb.mono (Nat.le_of_lt hp)), h.len, h.le⟩
theorem own_chg {w w' : World} {lo hi base : Nat} {e : TypeId} {size : Nat} {v : Value} {n : Nat} {xs : List Value} (h : w.ownsRow base e size v n xs) (c : Chg lo hi w w') (ho : hi ≤ base) : w'.ownsRow base e size v n xs :=
  ((Ob.of h).chg c (.inr ho)).1

/-- A draw: a number from 0 to n - 1 (0 where n is 1 or less). -/
theorem pick_any (p K : Nat) (n : Int) (w : World) (h : SrcK w p K) (hK : K < 1000000) (hn : n ≤ 65536) :
    Calls Try.prog 114 #[.pointer (some ⟨p, 0, none⟩), .int .i64 n] w fun e w' => ∃ x : Nat, ((x : Int) < n ∨ x = 0) ∧ e = .returned (.int .i64 (x : Int)) ∧ SrcK w' p (K + 2) ∧ Chg p (p + 1) w w' := by
  go_enter Try.func114, Try.ntmps114
  by_cases h1 : n ≤ 1
  · go_wp2
    go_ret
    exact ⟨0, .inr rfl, rfl, h.more (by omega), Chg.refl _ _ _⟩
  · go_wp2_with fail
    refine (next_any p K _ h (by omega)).mono ?_; rintro e w1 ⟨x, hx, rfl, h1s, hc1⟩
    by_cases h2 : n > 200
    · go_wp2_with fail
      refine (next_any p (K + 1) _ h1s (by omega)).mono ?_; rintro e w2 ⟨y, hy, rfl, h2s, hc2⟩
      have z1 : IntKind.i64.wrap ((x : Int) * 256) = (x : Int) * 256 := by rw [IntKind.wrap_i64]; omega
      have z2 : IntKind.i64.wrap ((x : Int) * 256 + (y : Int)) = (x : Int) * 256 + (y : Int) := by rw [IntKind.wrap_i64]; omega
      have z3 : ¬ n = 0 := by omega
      obtain ⟨z, hz, hzn⟩ := tmod_nat (x * 256 + y) (show 1 < n by omega)
      have hz2 : Int.tmod ((x : Int) * 256 + (y : Int)) n = (z : Int) := by rw [← hz]; congr 1
      have z4 : IntKind.i64.wrap (z : Int) = (z : Int) := by rw [IntKind.wrap_i64]; omega
      go_wp2
      go_ret
      exact ⟨z, .inl hzn, rfl, h2s, hc1.trans hc2⟩
    · have z3 : ¬ n = 0 := by omega
      obtain ⟨z, hz, hzn⟩ := tmod_nat x (show 1 < n by omega)
      have z4 : IntKind.i64.wrap (z : Int) = (z : Int) := by rw [IntKind.wrap_i64]; omega
      go_wp2
      go_ret
      exact ⟨z, .inl hzn, rfl, h1s.more (by omega), hc1⟩

theorem one_any (p K : Nat) (n : Int) (w : World) (h : SrcK w p K) (hK : K < 1000000) (hn : n ≤ 65536) :
    Calls Try.prog 172 #[.pointer (some ⟨p, 0, none⟩), .int .i64 n] w fun e w' => (e = .returned (.bool true) ∧ SrcK w' p (K + 2) ∧ Chg p (p + 1) w w') ∨ (e = .returned (.bool false) ∧ SrcK w' p (K + 2) ∧ Chg p (p + 1) w w') := by
  go_enter Try.func172, Try.ntmps172
  go_wp2_with fail
  refine (pick_any p K n _ h hK hn).mono ?_; rintro e w1 ⟨x, hx, rfl, hs, hc⟩
  by_cases h0 : x = 0
  · subst h0
    go_wp2
    go_ret
    exact .inl ⟨rfl, hs, hc⟩
  · have z : ¬ (x : Int) = 0 := by omega
    go_wp2
    go_ret
    exact .inr ⟨ret_bool (by simpa using h0), hs, hc⟩
end Go.Proofs.Ytdppmlchabogaaa
