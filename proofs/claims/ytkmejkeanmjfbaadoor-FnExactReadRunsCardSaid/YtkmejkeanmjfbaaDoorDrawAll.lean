/- The source of draws: next, pick, one. Draws of texts, cards and decks. Draws of decks. -/
import Derived.Test.YtkmejkeanmjfbaaDoorWords
import Derived.Test.YtkmejkeanmjfbaaDoorKeysAll
import Derived.Test.YtkmejkeanmjfbaaDoorCardFns
import Derived.Test.YtkmejkeanmjfbaaDoorDecks
import Derived.Test.YtkmejkeanmjfbaaDoorCollate
import Derived.Deep.RegionLaw
/-! ### The source of draws: next, pick, one. -/
namespace Go.Proofs.YtkmejkeanmjfbaaDoor
open Go.RowKit

theorem Chg.set {lo hi : Nat} {w w' : World} (h : Chg lo hi w w') {b : Nat} (o : Nat) (v : Value) (h1 : lo ≤ b) (h2 : b < hi) : Chg lo hi w (w'.setCell ⟨b, o, none⟩ v) :=
  ⟨h.os, h.tape, h.output, by simpa [World.setCell] using h.size, fun k hk ho => (Below.heap_setCell w' ⟨b, o, none⟩ v k (by simp only; omega)).trans (h.block k hk ho)⟩
theorem Chg.drew {lo hi : Nat} {w w' : World} (h : Chg lo hi w w') : Chg lo hi w w'.drew := ⟨h.os, h.tape, h.output, h.size, h.block⟩

/-- A source of draws in block p: its bytes lie below p; at most K bytes have been asked for. -/
structure Src (w : World) (p K : Nat) (A : Option Addr) (n c at_ : Nat) (bs : List UInt8) (seed : Int) : Prop where
  code : w.cell? ⟨p, 0, none⟩ = some (.slice A n c)
  pos : w.cell? ⟨p, 1, none⟩ = some (.int .i64 (at_ : Int))
  sd : w.cell? ⟨p, 2, none⟩ = some (.int .u64 seed)
  f1 : w.frozen? ⟨p, 1, none⟩ = false
  f2 : w.frozen? ⟨p, 2, none⟩ = false
  rd : Rd w p 1 A n (byts bs)
  len : n ≤ 1048576
  le : at_ ≤ K
def SrcK (w : World) (p K : Nat) : Prop := ∃ A n c at_ bs seed, Src w p K A n c at_ bs seed
theorem SrcK.more {w : World} {p K K' : Nat} (h : SrcK w p K) (hk : K ≤ K') : SrcK w p K' := by
  obtain ⟨A, n, c, a, bs, sd, h⟩ := h
  exact ⟨A, n, c, a, bs, sd, h.code, h.pos, h.sd, h.f1, h.f2, h.rd, h.len, Nat.le_trans h.le hk⟩
theorem SrcK.lt {w : World} {p K : Nat} (h : SrcK w p K) : p < w.heap.size := by
  obtain ⟨A, n, c, a, bs, sd, h⟩ := h
  exact World.block_lt_of_cell? _ _ h.code
theorem SrcK.later {w w' : World} {p K : Nat} (h : SrcK w p K) (hb : Below w.heap.size w w') : SrcK w' p K := by
  have hlt := h.lt
  obtain ⟨A, n, c, a, bs, sd, h⟩ := h
  exact ⟨A, n, c, a, bs, sd, cell_later hb h.code, cell_later hb h.pos, cell_later hb h.sd, froz_later hb h.f1 hlt, froz_later hb h.f2 hlt, h.rd.bs (Nat.le_of_lt hlt) hb, h.len, h.le⟩
theorem SrcK.drew {w : World} {p K : Nat} (h : SrcK w p K) : SrcK w.drew p K := by
  obtain ⟨A, n, c, a, bs, sd, h⟩ := h
  exact ⟨A, n, c, a, bs, sd, h.code, h.pos, h.sd, h.f1, h.f2, h.rd, h.len, h.le⟩

theorem and255_range (s : Int) : 0 ≤ wrap64 (bits .and .u64 s 255) ∧ wrap64 (bits .and .u64 s 255) ≤ 255 := by
  have h : ∃ m : Nat, bits .and .u64 s 255 = (m : Int) ∧ m ≤ 255 := by
    refine ⟨(BitVec.ofInt 64 s &&& BitVec.ofInt 64 255).toNat, ?_, ?_⟩
    · show IntKind.u64.wrap ((BitVec.ofInt 64 s &&& BitVec.ofInt 64 255).toNat : Int) = _
      have h : (BitVec.ofInt 64 s &&& BitVec.ofInt 64 255).toNat ≤ 255 := by
        rw [BitVec.toNat_and]
        exact Nat.le_trans Nat.and_le_right (by decide)
      generalize (BitVec.ofInt 64 s &&& BitVec.ofInt 64 255).toNat = m at h ⊢
      simp [IntKind.wrap, IntKind.bits, IntKind.signed]
      omega
    · rw [BitVec.toNat_and]
      exact Nat.le_trans Nat.and_le_right (by decide)
  obtain ⟨m, h, hm⟩ := h
  rw [h]
  unfold wrap64
  omega

theorem set_src {w : World} {p K : Nat} {A : Option Addr} {n c a : Nat} {bs : List UInt8} {sd : Int} (k0 : w.cell? ⟨p, 0, none⟩ = some (.slice A n c)) (k1 : w.cell? ⟨p, 1, none⟩ = some (.int .i64 (a : Int))) (k2 : w.cell? ⟨p, 2, none⟩ = some (.int .u64 sd))
    (f1 : w.frozen? ⟨p, 1, none⟩ = false) (f2 : w.frozen? ⟨p, 2, none⟩ = false) (hrd : Rd w p 1 A n (byts bs)) (hlen : n ≤ 1048576) (hle : a ≤ K) {v : Int} (hv : v = ((a + 1 : Nat) : Int)) (sd' : Int) :
    SrcK ((w.setCell ⟨p, 1, none⟩ (.int .i64 v)).setCell ⟨p, 2, none⟩ (.int .u64 sd')) p (K + 1) ∧ Chg p (p + 1) w ((w.setCell ⟨p, 1, none⟩ (.int .i64 v)).setCell ⟨p, 2, none⟩ (.int .u64 sd')) := by
  subst hv
  refine ⟨⟨A, n, c, a + 1, bs, sd', ?_, ?_, ?_, ?_, ?_, (hrd.setCell (Nat.le_refl _) _).setCell (Nat.le_refl _) _, hlen, by omega⟩, ((Chg.refl _ _ _).set 1 _ (Nat.le_refl _) (by omega)).set 2 _ (Nat.le_refl _) (by omega)⟩
  · rw [World.cell?_setCell_other _ _ _ _ (by simp), World.cell?_setCell_other _ _ _ _ (by simp)]
    exact k0
  · rw [World.cell?_setCell_other _ _ _ _ (by simp)]
    exact World.cell?_setCell_same _ _ _ k1
  · exact World.cell?_setCell_same _ _ _ (u := .int .u64 sd) (by rw [World.cell?_setCell_other _ _ _ _ (by simp)]; exact k2)
  · simp [f1]
  · simp [f2]

theorem tmod_nat (m : Nat) {n : Int} (h : 1 < n) : ∃ x : Nat, Int.tmod (m : Int) n = (x : Int) ∧ (x : Int) < n := by
  obtain ⟨k, rfl⟩ := Int.eq_ofNat_of_zero_le (show 0 ≤ n by omega)
  refine ⟨m % k, by rw [← Int.ofNat_tmod], ?_⟩
  have := Nat.mod_lt m (show 0 < k by omega)
  omega
theorem Chg.then {lo hi B : Nat} {w a b : World} (h : Chg lo hi w a) (k : Below B a b) (hB : w.heap.size ≤ B) : Chg lo hi w b :=
  ⟨k.os.trans h.os, k.tape.trans h.tape, k.output.trans h.output, Nat.le_trans h.size k.size, fun i hi ho => (k.block i (by omega)).trans (h.block i hi ho)⟩
theorem SrcK.below {w w' : World} {p K B : Nat} (h : SrcK w p K) (hb : Below B w w') (hp : p < B) : SrcK w' p K := by
  obtain ⟨A, n, c, a, bs, sd, h⟩ := h
  exact ⟨A, n, c, a, bs, sd, (hb.cell (p := ⟨p, 0, none⟩) hp).trans h.code, (hb.cell (p := ⟨p, 1, none⟩) hp).trans h.pos, (hb.cell (p := ⟨p, 2, none⟩) hp).trans h.sd, (hb.frozen (p := ⟨p, 1, none⟩) hp).trans h.f1, (hb.frozen (p := ⟨p, 2, none⟩) hp).trans h.f2, h.rd.below (hb.mono (Nat.le_of_lt hp)), h.len, h.le⟩
theorem own_chg {w w' : World} {lo hi base : Nat} {e : TypeId} {size : Nat} {v : Value} {n : Nat} {xs : List Value} (h : w.ownsRow base e size v n xs) (c : Chg lo hi w w') (ho : hi ≤ base) : w'.ownsRow base e size v n xs :=
  ((Ob.of h).chg c (.inr ho)).1

end Go.Proofs.YtkmejkeanmjfbaaDoor

/-! ### Draws of texts, cards and decks. -/
namespace Go.Proofs.YtkmejkeanmjfbaaDoor
open Go.RowKit

theorem bs_size (s : List UInt8) : (bs_ s).size = s.length := by
  show s.toArray.size = _
  simp
theorem chB_charL : charL.all chB = true := by decide
theorem chB_at (k : Nat) (h : k < 40) : chB (charL[k]'h) = true := List.all_eq_true.1 chB_charL _ (List.getElem_mem _)
abbrev sevB : ByteArray := { data := #[65, 66, 48, 49, 32, 74, 90] }
def sevL : List UInt8 := [65, 66, 48, 49, 32, 74, 90]
theorem sevB_at (k : Nat) (h : k < 7) : sevB[k]'(by exact h) = sevL[k]'h := rfl
theorem sev_ch (k : Nat) (h : k < 7) : chB (sevL[k]'h) = true := by
  have : sevL.all chB = true := by decide
  exact List.all_eq_true.1 this _ (List.getElem_mem _)

/-- Behind k characters. -/
def TxR (p K n : Nat) (w wr : World) (o q : Value) : Prop := ∃ (k g cg : Nat) (s : List UInt8), k ≤ n ∧ q = .int .i64 k ∧ o = .slice (some ⟨g, 0, none⟩) k cg ∧ s.length = k ∧ s.all chB = true ∧
  wr.ownsRow w.heap.size 5 1 (.slice (some ⟨g, 0, none⟩) k cg) k (byts s) ∧ Chg p (p + 1) w wr ∧ SrcK wr p (K + 4 * k)

/-- The columns of a text. -/
def codL (t : ByteArray) : List Int := (byt t).map fun c => codeV c.toNat
theorem codL_length (t : ByteArray) : (codL t).length = t.size := by unfold codL; rw [List.length_map, byt_size]
theorem codL_snoc (t : ByteArray) {k : Nat} (h : k < t.size) {v : Int} (hv : v = codeV (t[k]'h).toNat) : (codL t).take (k + 1) = (codL t).take k ++ [v] := by
  rw [List.take_succ_eq_append_getElem (by rw [codL_length]; exact h)]
  congr 1
  rw [hv]
  simp [codL, byt]
  rfl
/-- Behind k columns. -/
def CdR (t : ByteArray) (w wr : World) (q : Value) : Prop := ∃ (k : Nat) (G : Option Addr) (cg : Nat), k ≤ t.size ∧ q = .int .i64 k ∧ wr.ownsRow (w.heap.size + 2) 2 1 (.slice G k cg) k (ints ((codL t).take k)) ∧ Below w.heap.size w wr ∧
  wr.cell? ⟨w.heap.size + 1, 0, none⟩ = some (.slice G k cg) ∧ wr.frozen? ⟨w.heap.size + 1, 0, none⟩ = false ∧ wr.cell? ⟨w.heap.size, 0, none⟩ = some (.slice none 0 0) ∧ wr.frozen? ⟨w.heap.size, 0, none⟩ = false ∧ w.heap.size + 2 ≤ wr.heap.size

end Go.Proofs.YtkmejkeanmjfbaaDoor

/-! ### Draws of decks. -/
namespace Go.Proofs.YtkmejkeanmjfbaaDoor
open Go.RowKit

/-! ### decks -/
def GoodX (wd : Nat) (x : List Int) : Prop := x.length = wd ∧ x.all legalM = true ∧ x.all holeB = true
def GoodD (wd : Nat) (L : List (List Int)) : Prop := ∀ x ∈ L, GoodX wd x
theorem code_good : ∀ n : Fin 256, decide (0 ≤ codeV n.val) = true → legalM (codeV n.val) = true ∧ holeB (codeV n.val) = true := by decide +kernel
theorem good_text {t : ByteArray} {wd : Nat} (hn : t.size = wd) (h : chaB t = true) : GoodX wd (codL t) := by
  refine ⟨by rw [codL_length, hn], ?_, ?_⟩
  · refine List.all_eq_true.2 fun x hx => ?_
    obtain ⟨c, hc, rfl⟩ := List.mem_map.1 hx
    exact (code_good ⟨c.toNat, c.toNat_lt⟩ (List.all_eq_true.1 h c hc)).1
  · refine List.all_eq_true.2 fun x hx => ?_
    obtain ⟨c, hc, rfl⟩ := List.mem_map.1 hx
    exact (code_good ⟨c.toNat, c.toNat_lt⟩ (List.all_eq_true.1 h c hc)).2
theorem good_snoc {wd : Nat} {L : List (List Int)} {x : List Int} (h : GoodD wd L) (hx : GoodX wd x) : GoodD wd (L ++ [x]) := by
  intro y hy
  rcases List.mem_append.1 hy with hy | hy
  · exact h y hy
  · rw [List.mem_singleton] at hy
    exact hy ▸ hx
end Go.Proofs.YtkmejkeanmjfbaaDoor
