/- The source of draws: next, pick, one. Draws of texts, cards and decks. Draws of decks. -/
import Derived.Test.YtkmejkeanmjfbaaGreatDoorKd1
import Derived.Test.YtkmejkeanmjfbaaGreatDoorKd10
import Derived.Test.YtkmejkeanmjfbaaGreatDoorKd5
import Derived.Test.YtkmejkeanmjfbaaGreatDoorKd8
import Derived.Deep.RegionLaw
/-! ### DrawAll -/
/-! ### The source of draws: next, pick, one. -/
namespace Go.Proofs.YtkmejkeanmjfbaaGreatDoor
open Go.RowKit

theorem Chg.set {lo hi : Nat} {w w' : World} (h : Chg lo hi w w') {b : Nat} (o : Nat) (v : Value) (h1 : lo ≤ b) (h2 : b < hi) : Chg lo hi w (w'.setCell ⟨b, o, none⟩ v) :=
  ⟨h.os, h.tape, h.output, by simpa [World.setCell] using h.size, fun k hk ho => (Below.heap_setCell w' ⟨b, o, none⟩ v k (by simp only; omega)).trans (h.block k hk ho)⟩
theorem Chg.drew {lo hi : Nat} {w w' : World} (h : Chg lo hi w w') : Chg lo hi w w'.drew := ⟨h.os, h.tape, h.output, h.size, h.block⟩

/-- A source of draws in block p: its bytes lie below p; at most K bytes have been asked for. -/
structure Src (w : World) (p K : Nat) (A : Option Addr) (n c at_ : Nat) (bs : List UInt8) (seed : Int) : Prop where
  code : w.cell? ⟨p, 0, none⟩ = some (.slice A n c)
  pos : w.cell? ⟨p, 1, none⟩ = some (.int .i64 (at_ : Int))
  sd : w.cell? ⟨p, 2, none⟩ = some (.int .u64 seed)
  f1 : w.frozen? ⟨p, 1, none⟩ = false
  f2 : w.frozen? ⟨p, 2, none⟩ = false
  rd : Rd w p 1 A n (byts bs)
  len : n ≤ 1048576
  le : at_ ≤ K
def SrcK (w : World) (p K : Nat) : Prop := ∃ A n c at_ bs seed, Src w p K A n c at_ bs seed
theorem SrcK.more {w : World} {p K K' : Nat} (h : SrcK w p K) (hk : K ≤ K') : SrcK w p K' := by
  obtain ⟨A, n, c, a, bs, sd, h⟩ := h
  exact ⟨A, n, c, a, bs, sd, h.code, h.pos, h.sd, h.f1, h.f2, h.rd, h.len, Nat.le_trans h.le hk⟩
theorem SrcK.lt {w : World} {p K : Nat} (h : SrcK w p K) : p < w.heap.size := by
  obtain ⟨A, n, c, a, bs, sd, h⟩ := h
  exact World.block_lt_of_cell? _ _ h.code
theorem SrcK.later {w w' : World} {p K : Nat} (h : SrcK w p K) (hb : Below w.heap.size w w') : SrcK w' p K := by
  have hlt := h.lt
  obtain ⟨A, n, c, a, bs, sd, h⟩ := h
  exact ⟨A, n, c, a, bs, sd, cell_later hb h.code, cell_later hb h.pos, cell_later hb h.sd, froz_later hb h.f1 hlt, froz_later hb h.f2 hlt, h.rd.bs (Nat.le_of_lt hlt) hb, h.len, h.le⟩
theorem SrcK.drew {w : World} {p K : Nat} (h : SrcK w p K) : SrcK w.drew p K := by
  obtain ⟨A, n, c, a, bs, sd, h⟩ := h
  exact ⟨A, n, c, a, bs, sd, h.code, h.pos, h.sd, h.f1, h.f2, h.rd, h.len, h.le⟩

theorem and255_range (s : Int) : 0 ≤ wrap64 (bits .and .u64 s 255) ∧ wrap64 (bits .and .u64 s 255) ≤ 255 := by
  have h : ∃ m : Nat, bits .and .u64 s 255 = (m : Int) ∧ m ≤ 255 := by
    refine ⟨(BitVec.ofInt 64 s &&& BitVec.ofInt 64 255).toNat, ?_, ?_⟩
    · show IntKind.u64.wrap ((BitVec.ofInt 64 s &&& BitVec.ofInt 64 255).toNat : Int) = _
      have h : (BitVec.ofInt 64 s &&& BitVec.ofInt 64 255).toNat ≤ 255 := by
        rw [BitVec.toNat_and]
        exact Nat.le_trans Nat.and_le_right (by decide)
      generalize (BitVec.ofInt 64 s &&& BitVec.ofInt 64 255).toNat = m at h ⊢
      simp [IntKind.wrap, IntKind.bits, IntKind.signed]
      omega
    · rw [BitVec.toNat_and]
      exact Nat.le_trans Nat.and_le_right (by decide)
  obtain ⟨m, h, hm⟩ := h
  rw [h]
  unfold wrap64
  omega

theorem set_src {w : World} {p K : Nat} {A : Option Addr} {n c a : Nat} {bs : List UInt8} {sd : Int} (k0 : w.cell? ⟨p, 0, none⟩ = some (.slice A n c)) (k1 : w.cell? ⟨p, 1, none⟩ = some (.int .i64 (a : Int))) (k2 : w.cell? ⟨p, 2, none⟩ = some (.int .u64 sd))
    (f1 : w.frozen? ⟨p, 1, none⟩ = false) (f2 : w.frozen? ⟨p, 2, none⟩ = false) (hrd : Rd w p 1 A n (byts bs)) (hlen : n ≤ 1048576) (hle : a ≤ K) {v : Int} (hv : v = ((a + 1 : Nat) : Int)) (sd' : Int) :
    SrcK ((w.setCell ⟨p, 1, none⟩ (.int .i64 v)).setCell ⟨p, 2, none⟩ (.int .u64 sd')) p (K + 1) ∧ Chg p (p + 1) w ((w.setCell ⟨p, 1, none⟩ (.int .i64 v)).setCell ⟨p, 2, none⟩ (.int .u64 sd')) := by
  subst hv
  refine ⟨⟨A, n, c, a + 1, bs, sd', ?_, ?_, ?_, ?_, ?_, (hrd.setCell (Nat.le_refl _) _).setCell (Nat.le_refl _) _, hlen, by omega⟩, ((Chg.refl _ _ _).set 1 _ (Nat.le_refl _) (by omega)).set 2 _ (Nat.le_refl _) (by omega)⟩
  · rw [World.cell?_setCell_other _ _ _ _ (by simp), World.cell?_setCell_other _ _ _ _ (by simp)]
    exact k0
  · rw [World.cell?_setCell_other _ _ _ _ (by simp)]
    exact World.cell?_setCell_same _ _ _ k1
  · exact World.cell?_setCell_same _ _ _ (u := .int .u64 sd) (by rw [World.cell?_setCell_other _ _ _ _ (by simp)]; exact k2)
  · simp [f1]
  · simp [f2]

set_option maxRecDepth 20000 in
theorem next_any (p K : Nat) (w : World) (h : SrcK w p K) (hK : K < 1099511627776) :
    Calls Tryz.prog 72 #[.pointer (some ⟨p, 0, none⟩)] w fun e w' => ∃ x : Nat, x ≤ 255 ∧ e = .returned (.int .i64 (x : Int)) ∧ SrcK w' p (K + 1) ∧ Chg p (p + 1) w w' := by
  have hlt := h.lt
  obtain ⟨A, n, c, a, bs, sd, h⟩ := h
  have k0 := h.code
  have k1 := h.pos
  have k2 := h.sd
  have f1 := h.f1
  have f2 := h.f2
  have hrd := h.rd
  have hle := h.le
  have hlen := h.len
  clear h
  go_enter Tryz.func72, Tryz.ntmps72
  have HR := Lib.hid hrd
  clear hrd
  have i2 : IntKind.i64.wrap ((a : Int) + 1) = ((a + 1 : Nat) : Int) := by rw [IntKind.wrap_i64]; omega
  by_cases hlt2 : a < n
  · have i1 : (a : Int) < (n : Int) := by omega
    have hbl : bs.length = n := by have := HR.out.len; rw [byts_length] at this; omega
    obtain ⟨b, off, hA, hb, hcell⟩ := HR.out.at_ hlt2
    obtain ⟨v, hv⟩ : ∃ v : Nat, v = (bs[a]'(by omega)).toNat := ⟨_, rfl⟩
    have hv255 : v ≤ 255 := by have := (bs[a]'(by omega)).toNat_lt; omega
    have d1 := hcell a _ (byts_get bs a (by omega))
    rw [← hv] at d1
    have HA := Lib.hid hA
    subst hA
    have i3 : ((a + 1 : Nat) : Int) ≤ (n : Int) := by omega
    clear hcell hv
    go_wp2
    go_region
    go_wp2
    go_region
    go_wp2
    go_region
    go_wp2
    go_ret
    have hs := set_src k0 k1 k2 f1 f2 HR.out hlen hle (v := (a : Int) + 1) (by omega)
    exact ⟨v, hv255, rfl, (hs _).1.drew.drew.drew, (hs _).2.drew.drew.drew⟩
  · have i1 : ¬ (a : Int) < (n : Int) := by omega
    have i3 : ¬ ((a + 1 : Nat) : Int) ≤ (n : Int) := by omega
    go_wp2
    go_region
    go_wp2
    go_region
    go_wp2
    go_ret
    obtain ⟨m, hm⟩ : ∃ m : Nat, wrap64 (bits .and .u64 (IntKind.u64.wrap (IntKind.u64.wrap (IntKind.u64.wrap (sd * 6364136223846793005)) + 1442695040888963407) / 1099511627776) 255) = (m : Int) := Int.eq_ofNat_of_zero_le (and255_range _).1
    have hm2 := (and255_range (IntKind.u64.wrap (IntKind.u64.wrap (IntKind.u64.wrap (sd * 6364136223846793005)) + 1442695040888963407) / 1099511627776)).2
    have hs := set_src k0 k1 k2 f1 f2 HR.out hlen hle (v := (a : Int) + 1) (by omega)
    exact ⟨m, by omega, by rw [← hm]; rfl, (hs _).1.drew.drew, (hs _).2.drew.drew⟩

theorem tmod_nat (m : Nat) {n : Int} (h : 1 < n) : ∃ x : Nat, Int.tmod (m : Int) n = (x : Int) ∧ (x : Int) < n := by
  obtain ⟨k, rfl⟩ := Int.eq_ofNat_of_zero_le (show 0 ≤ n by omega)
  refine ⟨m % k, by rw [← Int.ofNat_tmod], ?_⟩
  have := Nat.mod_lt m (show 0 < k by omega)
  omega
theorem Chg.then {lo hi B : Nat} {w a b : World} (h : Chg lo hi w a) (k : Below B a b) (hB : w.heap.size ≤ B) : Chg lo hi w b :=
  ⟨k.os.trans h.os, k.tape.trans h.tape, k.output.trans h.output, Nat.le_trans h.size k.size, fun i hi ho => (k.block i (by omega)).trans (h.block i hi ho)⟩
theorem SrcK.below {w w' : World} {p K B : Nat} (h : SrcK w p K) (hb : Below B w w') (hp : p < B) : SrcK w' p K := by
  obtain ⟨A, n, c, a, bs, sd, h⟩ := h
  exact ⟨A, n, c, a, bs, sd, (hb.cell (p := ⟨p, 0, none⟩) hp).trans h.code, (hb.cell (p := ⟨p, 1, none⟩) hp).trans h.pos, (hb.cell (p := ⟨p, 2, none⟩) hp).trans h.sd, (hb.frozen (p := ⟨p, 1, none⟩) hp).trans h.f1, (hb.frozen (p := ⟨p, 2, none⟩) hp).trans h.f2, h.rd.below (hb.mono (Nat.le_of_lt hp)), h.len, h.le⟩
theorem own_chg {w w' : World} {lo hi base : Nat} {e : TypeId} {size : Nat} {v : Value} {n : Nat} {xs : List Value} (h : w.ownsRow base e size v n xs) (c : Chg lo hi w w') (ho : hi ≤ base) : w'.ownsRow base e size v n xs :=
  ((Ob.of h).chg c (.inr ho)).1

/-- A draw: a number from 0 to n - 1 (0 where n is 1 or less). -/
theorem pick_any (p K : Nat) (n : Int) (w : World) (h : SrcK w p K) (hK : K < 1000000) (hn : n ≤ 65536) :
    Calls Tryz.prog 29 #[.pointer (some ⟨p, 0, none⟩), .int .i64 n] w fun e w' => ∃ x : Nat, ((x : Int) < n ∨ x = 0) ∧ e = .returned (.int .i64 (x : Int)) ∧ SrcK w' p (K + 2) ∧ Chg p (p + 1) w w' := by
  go_enter Tryz.func29, Tryz.ntmps29
  by_cases h1 : n ≤ 1
  · go_wp2
    go_ret
    exact ⟨0, .inr rfl, rfl, h.more (by omega), Chg.refl _ _ _⟩
  · go_wp2_with fail
    refine (next_any p K _ h (by omega)).mono ?_; rintro e w1 ⟨x, hx, rfl, h1s, hc1⟩
    by_cases h2 : n > 200
    · go_wp2_with fail
      refine (next_any p (K + 1) _ h1s (by omega)).mono ?_; rintro e w2 ⟨y, hy, rfl, h2s, hc2⟩
      have z1 : IntKind.i64.wrap ((x : Int) * 256) = (x : Int) * 256 := by rw [IntKind.wrap_i64]; omega
      have z2 : IntKind.i64.wrap ((x : Int) * 256 + (y : Int)) = (x : Int) * 256 + (y : Int) := by rw [IntKind.wrap_i64]; omega
      have z3 : ¬ n = 0 := by omega
      obtain ⟨z, hz, hzn⟩ := tmod_nat (x * 256 + y) (show 1 < n by omega)
      have hz2 : Int.tmod ((x : Int) * 256 + (y : Int)) n = (z : Int) := by rw [← hz]; congr 1
      have z4 : IntKind.i64.wrap (z : Int) = (z : Int) := by rw [IntKind.wrap_i64]; omega
      go_wp2
      go_ret
      exact ⟨z, .inl hzn, rfl, h2s, hc1.trans hc2⟩
    · have z3 : ¬ n = 0 := by omega
      obtain ⟨z, hz, hzn⟩ := tmod_nat x (show 1 < n by omega)
      have z4 : IntKind.i64.wrap (z : Int) = (z : Int) := by rw [IntKind.wrap_i64]; omega
      go_wp2
      go_ret
      exact ⟨z, .inl hzn, rfl, h1s.more (by omega), hc1⟩

theorem one_any (p K : Nat) (n : Int) (w : World) (h : SrcK w p K) (hK : K < 1000000) (hn : n ≤ 65536) :
    Calls Tryz.prog 27 #[.pointer (some ⟨p, 0, none⟩), .int .i64 n] w fun e w' => (e = .returned (.bool true) ∧ SrcK w' p (K + 2) ∧ Chg p (p + 1) w w') ∨ (e = .returned (.bool false) ∧ SrcK w' p (K + 2) ∧ Chg p (p + 1) w w') := by
  go_enter Tryz.func27, Tryz.ntmps27
  go_wp2_with fail
  refine (pick_any p K n _ h hK hn).mono ?_; rintro e w1 ⟨x, hx, rfl, hs, hc⟩
  by_cases h0 : x = 0
  · subst h0
    go_wp2
    go_ret
    exact .inl ⟨rfl, hs, hc⟩
  · have z : ¬ (x : Int) = 0 := by omega
    go_wp2
    go_ret
    exact .inr ⟨ret_bool (by simpa using h0), hs, hc⟩
end Go.Proofs.YtkmejkeanmjfbaaGreatDoor

/-! ### Draws of texts, cards and decks. -/
namespace Go.Proofs.YtkmejkeanmjfbaaGreatDoor
open Go.RowKit

theorem bs_size (s : List UInt8) : (bs_ s).size = s.length := by
  show s.toArray.size = _
  simp
theorem chB_charL : charL.all chB = true := by decide
theorem chB_at (k : Nat) (h : k < 40) : chB (charL[k]'h) = true := List.all_eq_true.1 chB_charL _ (List.getElem_mem _)
abbrev sevB : ByteArray := { data := #[65, 66, 48, 49, 32, 74, 90] }
def sevL : List UInt8 := [65, 66, 48, 49, 32, 74, 90]
theorem sevB_at (k : Nat) (h : k < 7) : sevB[k]'(by exact h) = sevL[k]'h := rfl
theorem sev_ch (k : Nat) (h : k < 7) : chB (sevL[k]'h) = true := by
  have : sevL.all chB = true := by decide
  exact List.all_eq_true.1 this _ (List.getElem_mem _)

/-- Behind k characters. -/
def TxR (p K n : Nat) (w wr : World) (o q : Value) : Prop := ∃ (k g cg : Nat) (s : List UInt8), k ≤ n ∧ q = .int .i64 k ∧ o = .slice (some ⟨g, 0, none⟩) k cg ∧ s.length = k ∧ s.all chB = true ∧
  wr.ownsRow w.heap.size 5 1 (.slice (some ⟨g, 0, none⟩) k cg) k (byts s) ∧ Chg p (p + 1) w wr ∧ SrcK wr p (K + 4 * k)

set_option maxRecDepth 20000 in
set_option maxHeartbeats 4000000 in
theorem l03DrawText_any (p K n : Nat) (w : World) (h : SrcK w p K) (hK : K + 4 * n < 900000) :
    Calls Tryz.prog 71 #[.pointer (some ⟨p, 0, none⟩), .int .i64 (n : Int)] w fun e w' => ∃ t : ByteArray, t.size = n ∧ chaB t = true ∧ e = .returned (.string t) ∧ SrcK w' p (K + 4 * n) ∧ Chg p (p + 1) w w' := by
  obtain ⟨j0, hj, hj0, hj1, hj2⟩ := info_parts info_u8K
  have hlt := h.lt
  go_enter Tryz.func71, Tryz.ntmps71
  go_wp2_with fail
  refine (l03Order_any _).mono ?_; rintro e w1 ⟨rfl, rfl⟩
  go_wp2
  go_loopw [6, 7] (fun o q wr => TxR p K n w wr o q) (fun _ q _ => n - (intOf q).toNat)
  case atStart => exact ⟨0, w.heap.size, 0, [], Nat.zero_le _, rfl, rfl, rfl, rfl, own_lit w #[] 0 rfl (Nat.le_refl _) (by omega) rfl, (Chg.refl _ _ _).then (ba (b0 w) _) (Nat.le_refl _), h.later (ba (b0 w) _)⟩
  case round =>
    obtain ⟨wo, rfl⟩ : ∃ wo : World, wo = wr := ⟨_, rfl⟩
    obtain ⟨k, g, cg, s, hk, rfl, rfl, hsl, hsa, hown, hch, hsr⟩ := hrel
    have HSL := Lib.hid hsl
    have HSA := Lib.hid hsa
    have HCH := Lib.hid hch
    clear hsl hsa hch
    by_cases hlt2 : k < n
    · have i1 : (k : Int) < (n : Int) := by omega
      go_wp2_with fail
      refine (one_any p (K + 4 * k) 3 _ hsr (by omega) (by omega)).mono ?_
      rintro e w2 (⟨rfl, hs2, hc2⟩ | ⟨rfl, hs2, hc2⟩)
      · have hown2 := own_chg hown hc2 (by omega)
        have HC2 := Lib.hid (HCH.out.trans hc2)
        clear hown hc2 hsr
        go_wp2_with fail
        refine (pick_any p _ 40 _ hs2 (by omega) (by omega)).mono ?_
        rintro e w3 ⟨x, hx, rfl, hs3, hc3⟩
        have hx40 : x < 40 := by omega
        have i2 : (x : Int) < 40 := by omega
        have hb := Lib.hid (charB_at x hx40)
        have hch := Lib.hid (chB_at x hx40)
        have hown3 := own_chg hown2 hc3 (by omega)
        have HC3 := Lib.hid (HC2.out.trans hc3)
        have HS3 := Lib.hid hs3
        have hbase := HC3.out.size
        clear hown2 hc3 hs2 hs3 hx
        go_wp2_with (at_builtin; refine wpList_ap rfl (.tmp 17) (.tmp 24) 22 rfl w.heap.size 5 j0 _ 1 1 Tryz.underlying22 hj hj0 hj1 hj2 rfl (by omega) _ k _ (byts s) rfl w3 hown3 1 #[.int .u8 ((charB[x]'(by exact hx40)).toNat : Int)] w3.heap.size rfl rfl rfl (by intro v hv; simp at hv; subst hv; rfl) (by omega) (by omega) (by omega) hbase ?_; intro gg cap w6 hown6 hb6 hg6 _ _)
        have HO := Lib.hid (show w6.ownsRow w.heap.size 5 1 (.slice (some ⟨gg, 0, none⟩) (k + 1) cap) (k + 1) (byts (s ++ [charL[x]'(by exact hx40)])) by rw [byts_snoc, ← hb.out]; exact hown6)
        have HC := Lib.hid (HC3.out.then hb6 (Nat.le_refl _))
        have HS := Lib.hid ((HS3.out.below hb6 hlt).more (show K + 4 * k + 2 + 2 ≤ K + 4 * (k + 1) by omega))
        have HL := Lib.hid (show (s ++ [charL[x]'(by exact hx40)]).length = k + 1 by rw [List.length_append, HSL.out]; rfl)
        have HA := Lib.hid (show (s ++ [charL[x]'(by exact hx40)]).all chB = true by rw [List.all_append, HSA.out]; simp [hch.out])
        clear hown6 hown3 hb6 hg6 hbase
        go_wp2
        go_roundw
        case rel => exact ⟨k + 1, gg, cap, _, by omega, by go_num, rfl, HL.out, HA.out, HO.out, HC.out, HS.out⟩
        case measure => simp [intOf]; omega
      · have hown2 := own_chg hown hc2 (by omega)
        have HC2 := Lib.hid (HCH.out.trans hc2)
        clear hown hc2 hsr
        go_wp2_with fail
        refine (pick_any p _ 7 _ hs2 (by omega) (by omega)).mono ?_
        rintro e w3 ⟨x, hx, rfl, hs3, hc3⟩
        have hx40 : x < 7 := by omega
        have i2 : (x : Int) < 7 := by omega
        have hb := Lib.hid (sevB_at x hx40)
        have hch := Lib.hid (sev_ch x hx40)
        have hown3 := own_chg hown2 hc3 (by omega)
        have HC3 := Lib.hid (HC2.out.trans hc3)
        have HS3 := Lib.hid hs3
        have hbase := HC3.out.size
        clear hown2 hc3 hs2 hs3 hx
        go_wp2_with (at_builtin; refine wpList_ap rfl (.tmp 26) (.tmp 30) 22 rfl w.heap.size 5 j0 _ 1 1 Tryz.underlying22 hj hj0 hj1 hj2 rfl (by omega) _ k _ (byts s) rfl w3 hown3 1 #[.int .u8 ((sevB[x]'(by exact hx40)).toNat : Int)] w3.heap.size rfl rfl rfl (by intro v hv; simp at hv; subst hv; rfl) (by omega) (by omega) (by omega) hbase ?_; intro gg cap w6 hown6 hb6 hg6 _ _)
        have HO := Lib.hid (show w6.ownsRow w.heap.size 5 1 (.slice (some ⟨gg, 0, none⟩) (k + 1) cap) (k + 1) (byts (s ++ [sevL[x]'(by exact hx40)])) by rw [byts_snoc, ← hb.out]; exact hown6)
        have HC := Lib.hid (HC3.out.then hb6 (Nat.le_refl _))
        have HS := Lib.hid ((HS3.out.below hb6 hlt).more (show K + 4 * k + 2 + 2 ≤ K + 4 * (k + 1) by omega))
        have HL := Lib.hid (show (s ++ [sevL[x]'(by exact hx40)]).length = k + 1 by rw [List.length_append, HSL.out]; rfl)
        have HA := Lib.hid (show (s ++ [sevL[x]'(by exact hx40)]).all chB = true by rw [List.all_append, HSA.out]; simp [hch.out])
        clear hown6 hown3 hb6 hg6 hbase
        go_wp2
        go_roundw
        case rel => exact ⟨k + 1, gg, cap, _, by omega, by go_num, rfl, HL.out, HA.out, HO.out, HC.out, HS.out⟩
        case measure => simp [intOf]; omega
    · obtain rfl : k = n := by omega
      have hconv := conv_text hown
      clear hown
      go_wp2
      go_ret
      exact ⟨bs_ s, by rw [bs_size, HSL.out], HSA.out, rfl, hsr, HCH.out⟩

/-- The columns of a text. -/
def codL (t : ByteArray) : List Int := (byt t).map fun c => codeV c.toNat
theorem codL_length (t : ByteArray) : (codL t).length = t.size := by unfold codL; rw [List.length_map, byt_size]
theorem codL_snoc (t : ByteArray) {k : Nat} (h : k < t.size) {v : Int} (hv : v = codeV (t[k]'h).toNat) : (codL t).take (k + 1) = (codL t).take k ++ [v] := by
  rw [List.take_succ_eq_append_getElem (by rw [codL_length]; exact h)]
  congr 1
  rw [hv]
  simp [codL, byt]
  rfl
theorem l03Code_zz (c : UInt8) (z : Int) (w : World) (hz : z = codeV c.toNat) :
    Calls Tryz.prog 50 #[.int .u8 (c.toNat : Int)] w fun e w' => e = .returned (.int .i64 z) ∧ w = w' := by
  subst hz
  exact l03Code_any c.toNat (Nat.le_of_lt_succ (UInt8.toNat_lt c)) w
/-- Behind k columns. -/
def CdR (t : ByteArray) (w wr : World) (q : Value) : Prop := ∃ (k : Nat) (G : Option Addr) (cg : Nat), k ≤ t.size ∧ q = .int .i64 k ∧ wr.ownsRow (w.heap.size + 2) 2 1 (.slice G k cg) k (ints ((codL t).take k)) ∧ Below w.heap.size w wr ∧
  wr.cell? ⟨w.heap.size + 1, 0, none⟩ = some (.slice G k cg) ∧ wr.frozen? ⟨w.heap.size + 1, 0, none⟩ = false ∧ wr.cell? ⟨w.heap.size, 0, none⟩ = some (.slice none 0 0) ∧ wr.frozen? ⟨w.heap.size, 0, none⟩ = false ∧ w.heap.size + 2 ≤ wr.heap.size

set_option maxRecDepth 100000 in
set_option maxHeartbeats 4000000 in
theorem l03Card_any (t : ByteArray) (w : World) (hl : t.size ≤ 1048576) :
    Calls Tryz.prog 100 #[.string t] w fun e w' => ∃ B d, e = .returned (.agg #[.slice B t.size d]) ∧
      w'.ownsRow w.heap.size 2 1 (.slice B t.size d) t.size (ints (codL t)) ∧ Below w.heap.size w w' := by
  obtain ⟨i0, hi, hz0, hz1, hz2⟩ := info_parts info_i64
  obtain ⟨W, hW⟩ : ∃ W, W = (w.alloc (.cells #[.slice none 0 0] 26)).alloc (.cells #[.slice none 0 0] 26) := ⟨_, rfl⟩
  have T0 : Below w.heap.size w W := by rw [hW]; exact ba (ba (b0 w) _) _
  have k1 : W.cell? ⟨w.heap.size, 0, none⟩ = some (.slice none 0 0) := by rw [hW]; exact cell_alloc (cell_new rfl rfl) _
  have f1 : W.frozen? ⟨w.heap.size, 0, none⟩ = false := by rw [hW]; exact froz_alloc (froz_new rfl) (by simp) _
  have k2 : W.cell? ⟨w.heap.size + 1, 0, none⟩ = some (.slice none 0 0) := by rw [hW]; exact cell_new (by simp) rfl
  have f2 : W.frozen? ⟨w.heap.size + 1, 0, none⟩ = false := by rw [hW]; exact froz_new (by simp)
  have z0 : W.heap.size = w.heap.size + 2 := by rw [hW]; simp
  have HW := Lib.hid hW
  clear hW
  go_enter Tryz.func100, Tryz.ntmps100
  go_wp2
  go_loopw [4] (fun q wr => CdR t w wr q) (fun q _ => t.size - (intOf q).toNat)
  case atStart =>
    rw [← HW.out]
    exact ⟨0, none, 0, Nat.zero_le _, rfl, World.ownsRow_nil _ _ _ _, T0, k2, f2, k1, f1, by omega⟩
  case round =>
    obtain ⟨wo, rfl⟩ : ∃ wo : World, wo = wr := ⟨_, rfl⟩
    obtain ⟨k, G, cg, hk, rfl, hown, hbw, h5, g5, h6, g6, hz5⟩ := hrel
    by_cases hlt : k < t.size
    · obtain ⟨v, hv⟩ : ∃ v, v = codeV (t[k]'hlt).toNat := ⟨_, rfl⟩
      have HS := Lib.hid (codL_snoc t hlt hv)
      have HCO := Lib.hid (show ∀ w : World, Calls Tryz.prog 50 #[.int .u8 ((t[k]'hlt).toNat : Int)] w fun e w' => e = .returned (.int .i64 v) ∧ w = w' from fun w => l03Code_zz _ v w hv)
      have i1 : (k : Int) < (t.size : Int) := by omega
      have h5a := cell_alloc h5 (.cells #[.int .i64 v] 2)
      have g5a := froz_alloc g5 (by omega) (.cells #[.int .i64 v] 2)
      clear hv
      go_wp2_with fail
      go_region_law (first
        | (refine step_ap rfl (.tmp 13) (.tmp 18) 24 rfl (w.heap.size + 2) 2 i0 _ 1 8 Tryz.underlying24 hi hz0 hz1 hz2 rfl (by omega) G k cg (ints ((codL t).take k)) _ (by simp [Act.eval, Act.put]) (hown.alloc _) 1 #[.int .i64 v] wo.heap.size (heap_alloc_new wo _) (by simp [Act.eval, Act.put]) rfl (ints_one [v]) (by omega) (by omega) (by omega) (by simp; omega) ?_; intro g cap w3 hown3 hb3 hg3 hlt3; have e3 : w3.cell? ⟨w.heap.size + 1, 0, none⟩ = some (.slice G k cg) := (hb3.cell (p := ⟨w.heap.size + 1, 0, none⟩) (by simp)).trans (cell_alloc h5 _); have e4 : w3.frozen? ⟨w.heap.size + 1, 0, none⟩ = false := (hb3.frozen (p := ⟨w.heap.size + 1, 0, none⟩) (by simp)).trans (froz_alloc g5 (by omega) _); have e5 : w3.cell? ⟨w.heap.size, 0, none⟩ = some (.slice none 0 0) := (hb3.cell (p := ⟨w.heap.size, 0, none⟩) (by simp)).trans (cell_alloc h6 _); have e6 : w3.frozen? ⟨w.heap.size, 0, none⟩ = false := (hb3.frozen (p := ⟨w.heap.size, 0, none⟩) (by simp)).trans (froz_alloc g6 (by omega) _))
        | (go_simp; go_at_call 50; refine (HCO.out _).mono ?_; rintro e w5 ⟨rfl, rfl⟩))
      all_goals
        have TW : Below w.heap.size w w3 := (show Below w.heap.size w _ from (ba hbw _).drew).trans (hb3.mono (by omega))
        have HT := Lib.hid (bset TW (w.heap.size + 1) 0 (.slice (some ⟨g, 0, none⟩) (k + 1) cap) (by omega))
        have HO := Lib.hid (show (w3.setCell ⟨w.heap.size + 1, 0, none⟩ (.slice (some ⟨g, 0, none⟩) (k + 1) cap)).ownsRow (w.heap.size + 2) 2 1 (.slice (some ⟨g, 0, none⟩) (k + 1) cap) (k + 1) (ints ((codL t).take (k + 1))) by
          rw [HS.out, ints_snoc]
          exact own_below hown3 _ _ _ (by omega))
        have H5 := Lib.hid (show (w3.setCell ⟨w.heap.size + 1, 0, none⟩ (.slice (some ⟨g, 0, none⟩) (k + 1) cap)).cell? ⟨w.heap.size + 1, 0, none⟩ = some (.slice (some ⟨g, 0, none⟩) (k + 1) cap) from World.cell?_setCell_same _ _ _ e3)
        have G5 := Lib.hid (show (w3.setCell ⟨w.heap.size + 1, 0, none⟩ (.slice (some ⟨g, 0, none⟩) (k + 1) cap)).frozen? ⟨w.heap.size + 1, 0, none⟩ = false by simp [e4])
        have H6 := Lib.hid (set_far (g := w.heap.size + 1) (k := 0) (u := .slice (some ⟨g, 0, none⟩) (k + 1) cap) e5 (by omega))
        have G6 := Lib.hid (set_far_f (g := w.heap.size + 1) (k := 0) (u := .slice (some ⟨g, 0, none⟩) (k + 1) cap) e6 (by omega))
        have HZ := Lib.hid (show w.heap.size + 2 ≤ (w3.setCell ⟨w.heap.size + 1, 0, none⟩ (.slice (some ⟨g, 0, none⟩) (k + 1) cap)).heap.size by have h : w.heap.size + 1 < w3.heap.size := World.block_lt_of_cell? _ _ e3; rw [World.size_setCell]; omega)
        clear hown hbw h5 g5 h6 g6 hown3 hb3 TW e5 e6
        go_wp2
        go_roundw
        case rel =>
          have P : CdR t w (w3.setCell ⟨w.heap.size + 1, 0, none⟩ (.slice (some ⟨g, 0, none⟩) (k + 1) cap)) (.int .i64 ((k : Int) + 1)) := ⟨k + 1, _, cap, by omega, by go_num, HO.out, HT.out, H5.out, G5.out, H6.out, G6.out, HZ.out⟩
          first | exact P | exact ⟨_, P, rfl⟩ | exact ⟨_, _, P, rfl, rfl⟩ | exact ⟨_, _, _, P, rfl, rfl, rfl⟩ | exact ⟨_, _, _, _, P, rfl, rfl, rfl, rfl⟩ | exact ⟨_, _, _, _, _, P, rfl, rfl, rfl, rfl, rfl⟩ | exact ⟨_, _, _, _, _, _, P, rfl, rfl, rfl, rfl, rfl, rfl⟩ | exact ⟨_, _, _, _, _, _, _, P, rfl, rfl, rfl, rfl, rfl, rfl, rfl⟩ | exact ⟨_, _, _, _, _, _, _, _, P, rfl, rfl, rfl, rfl, rfl, rfl, rfl, rfl⟩
        case measure => simp [intOf]; omega
    · obtain rfl : k = t.size := by omega
      have HTK := Lib.hid (show (codL t).take t.size = codL t from List.take_of_length_le (by rw [codL_length]; omega))
      rw [HTK.out] at hown
      go_wp2
      refine bodyPost_ret (v := .agg #[.slice G t.size cg]) (by simp [results, Tryz.results100, go_sem, *]) rfl ⟨G, cg, rfl, ?_, ?_⟩
      · exact own_base (own_below hown _ _ _ (by omega)) (by omega)
      · exact bset hbw _ _ _ (by omega)
end Go.Proofs.YtkmejkeanmjfbaaGreatDoor

/-! ### Draws of decks. -/
namespace Go.Proofs.YtkmejkeanmjfbaaGreatDoor
open Go.RowKit

/-! ### decks -/
def GoodX (wd : Nat) (x : List Int) : Prop := x.length = wd ∧ x.all legalM = true ∧ x.all holeB = true
def GoodD (wd : Nat) (L : List (List Int)) : Prop := ∀ x ∈ L, GoodX wd x
theorem code_good : ∀ n : Fin 256, decide (0 ≤ codeV n.val) = true → legalM (codeV n.val) = true ∧ holeB (codeV n.val) = true := by decide +kernel
theorem good_text {t : ByteArray} {wd : Nat} (hn : t.size = wd) (h : chaB t = true) : GoodX wd (codL t) := by
  refine ⟨by rw [codL_length, hn], ?_, ?_⟩
  · refine List.all_eq_true.2 fun x hx => ?_
    obtain ⟨c, hc, rfl⟩ := List.mem_map.1 hx
    exact (code_good ⟨c.toNat, c.toNat_lt⟩ (List.all_eq_true.1 h c hc)).1
  · refine List.all_eq_true.2 fun x hx => ?_
    obtain ⟨c, hc, rfl⟩ := List.mem_map.1 hx
    exact (code_good ⟨c.toNat, c.toNat_lt⟩ (List.all_eq_true.1 h c hc)).2
theorem good_snoc {wd : Nat} {L : List (List Int)} {x : List Int} (h : GoodD wd L) (hx : GoodX wd x) : GoodD wd (L ++ [x]) := by
  intro y hy
  rcases List.mem_append.1 hy with hy | hy
  · exact h y hy
  · rw [List.mem_singleton] at hy
    exact hy ▸ hx
def DwR (p K wd m : Nat) (w wr : World) (o q : Value) : Prop := ∃ (j : Nat) (D : Option Addr) (c : Nat) (gs : List Hd), q = .int .i64 j ∧ o = .slice D gs.length c ∧ gs.length + j ≤ m ∧ j ≤ m ∧ GoodD wd (cards gs) ∧
  ObD wr w.heap.size wr.heap.size 26 2 D c gs ∧ Chg p (p + 1) w wr ∧ SrcK wr p (K + 2 + 100 * (m - j))

end Go.Proofs.YtkmejkeanmjfbaaGreatDoor
