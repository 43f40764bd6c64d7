/- slices.DeleteFunc over []Card on a deck of the call's own, at a closure whose contract is given. The cards of pockets behind each other; in the program and in the reference. The pockets of a column; in the program and in the reference. slices.IndexFunc and slices.ContainsFunc over []Pass, at a closure whose contract is given. Are passes ones of so many columns? In the program (arePasses) and in the reference (l07Pass, l08Passes); HandledCards. -/
import Derived.Test.YtkmejkeanmjfbaaGreatDoorKd8
import Derived.Test.YtkmejkeanmjfbaaGreatDoorKd6
import Derived.Test.YtkmejkeanmjfbaaGreatDoorKd3
import Derived.Laws.BitsAllLaws
import Derived.Test.YtkmejkeanmjfbaaGreatDoorKd2
/-! ### DelCard -/
namespace Go.Proofs.YtkmejkeanmjfbaaGreatDoor
open Go.RowKit

def predH (pred : List Int → Bool) (h : Hd) : Bool := pred h.xs
theorem keep_cards (pred : List Int → Bool) (hs : List Hd) : cards (keep (predH pred) hs) = keep pred (cards hs) := by
  unfold keep cards predH
  induction hs with
  | nil => rfl
  | cons h hs ih =>
    simp only [List.map_cons, List.filter_cons]
    cases pred h.xs <;> simp [ih]
theorem heads_takeD (hs : List Hd) (k : Nat) : (heads hs).take k = heads (hs.take k) := by simp [heads]
theorem any_cards (pred : List Int → Bool) (hs : List Hd) : (cards hs).any pred = hs.any (predH pred) := by
  unfold cards predH
  rw [List.any_map]
  rfl
theorem idxP_cards (pred : List Int → Bool) (hs : List Hd) : idxP pred (cards hs) = idxP (predH pred) hs := by
  unfold idxP
  rw [any_cards]
  split
  · congr 1
    unfold cards
    rw [List.findIdx_map]
    rfl
  · rfl
/-- The cards' rows stay where the row of headers turns. -/
def CardsOb (w : World) (lo hi : Nat) (hs : List Hd) : Prop := ∀ h ∈ hs, Ob w lo hi 2 1 (.slice h.a h.xs.length h.c) h.xs.length (ints h.xs)
theorem CardsOb.bs {w w' : World} {lo hi : Nat} {hs : List Hd} (h : CardsOb w lo hi hs) (hb : Below w.heap.size w w') : CardsOb w' lo hi hs := fun x hx => (h x hx).bs hb
theorem CardsOb.kept {w w' : World} {lo hi lo' : Nat} {hs : List Hd} {D : Option Addr} {m c n : Nat} {ys : List Value} (h : CardsOb w lo hi hs) (hr : w.ownsRow lo' 26 1 (.slice D m c) n ys) (hg : w.grownBy w' (Value.slice D m c).ownBlock) : CardsOb w' lo hi hs :=
  fun x hx => (h x hx).kept hg (own_ne (h x hx).1 hr (by decide))
theorem set_grown {w : World} {base g n cap : Nat} {e : TypeId} {size : Nat} {xs : List Value} (h : w.ownsRow base e size (.slice (some ⟨g, 0, none⟩) n cap) n xs) (j : Nat) (u : Value) : w.grownBy (w.setCell ⟨g, j, none⟩ u) (some g) := (h.stored j u).2

end Go.Proofs.YtkmejkeanmjfbaaGreatDoor

/-! ### Gather -/
namespace Go.Proofs.YtkmejkeanmjfbaaGreatDoor
open Go.RowKit

theorem info_cardG : (Tryz.prog.info? 26).map (fun i => (i.zero, i.size, i.bytes)) = some (some (.agg #[.slice none 0 0]), 1, 24) := by kernel_rfl
/-- The pockets in the order in which they are gathered. -/
def ordN (m : Int) : List Nat := if m = 2 then [12, 11, 10, 0, 1] else [12, 0, 1, 2, 3, 4, 5, 6, 7, 8, 9]
def ordI (m : Int) : List Int := (ordN m).map fun (k : Nat) => (k : Int)
theorem ordI_length (m : Int) : (ordI m).length = (ordN m).length := by simp [ordI]
theorem ordN_len (m : Int) : (ordN m).length ≤ 11 := by unfold ordN; split <;> simp
theorem ordN_lt (m : Int) (k : Nat) (h : k < (ordN m).length) : (ordN m)[k] < 13 := by
  have : ∀ j ∈ ordN m, j < 13 := by
    unfold ordN
    split <;> decide
  exact this _ (List.getElem_mem h)
theorem ordI_at (m : Int) (k : Nat) (h : k < (ordN m).length) : (ints (ordI m))[k]? = some (.int .i64 ((ordN m)[k] : Int)) := by simp [ints, ordI, h]
def gathTo (P : List (List (List Int))) (m : Int) (k : Nat) : List (List Int) := ((ordN m).take k).flatMap fun j => P.getD j []
def gathL (P : List (List (List Int))) (m : Int) : List (List Int) := (ordN m).flatMap fun j => P.getD j []
theorem gathTo_zero (P : List (List (List Int))) (m : Int) : gathTo P m 0 = [] := by simp [gathTo]
theorem gathTo_succ (P : List (List (List Int))) (m : Int) (k : Nat) (h : k < (ordN m).length) : gathTo P m (k + 1) = gathTo P m k ++ P.getD (ordN m)[k] [] := by
  unfold gathTo
  rw [List.take_succ_eq_append_getElem h, List.flatMap_append]
  simp
theorem gathTo_all (P : List (List (List Int))) (m : Int) : gathTo P m (ordN m).length = gathL P m := by simp [gathTo, gathL]
theorem decks_getD (ds : List Dk) (j : Nat) (h : j < ds.length) : (decks ds).getD j [] = cards ds[j].hs := by simp [decks, h]

/-- A deck of the call's own, and behind it another one. -/
theorem ObD.join {w w' : World} {lo hi : Nat} {eD eC : TypeId} {D : Option Addr} {c : Nat} {hs : List Hd} (h : ObD w lo hi eD eC D c hs) (hne : eC ≠ eD) {l1 h1 : Nat} {B : Option Addr} {d : Nat} {gs : List Hd} (k : ObD w l1 h1 eD eC B d gs) (hl : hi ≤ l1) (hll : lo ≤ l1) {D' : Option Addr} {c' : Nat}
    (hrow : w'.ownsRow lo eD 1 (.slice D' (hs.length + gs.length) c') (hs.length + gs.length) (heads hs ++ heads gs)) (hg : w.grownBy w' (Value.slice D hs.length c).ownBlock) (hhi : hi ≤ w.heap.size) (hh1 : h1 ≤ w.heap.size) :
    ObD w' lo w'.heap.size eD eC D' c' (hs ++ gs) := by
  have hz := hg.size
  refine ⟨?_, ?_, ?_⟩
  · rw [heads_append, List.length_append]
    exact Ob.of hrow
  · intro y hy
    rcases List.mem_append.1 hy with hy | hy
    · exact ((h.card y hy).kept hg (own_ne (h.card y hy).1 h.row.1 hne)).mono (Nat.le_refl _) (by omega)
    · exact ((k.card y hy).kept hg (own_ne (k.card y hy).1 h.row.1 hne)).mono hll (by omega)
  · refine List.pairwise_append.2 ⟨h.apart, k.apart, ?_⟩
    intro x hx y hy g e1 e2
    have h2 := ob_form (h.card x hx) e1
    have h3 := ob_form (k.card y hy) e2
    simp only at h2 h3
    omega

/-- Behind k pockets. -/
def GaR (ds : List Dk) (m : Int) (A : Option Addr) (w wr : World) (o i : Value) : Prop := ∃ (k n : Nat) (G : Option Addr) (cg : Nat) (gs : List Hd), k ≤ (ordN m).length ∧ i = .int .i64 k ∧ gs.length = n ∧ n ≤ k * 1048576 ∧ o = .slice G n cg ∧ cards gs = gathTo (decks ds) m k ∧
  ObD wr w.heap.size wr.heap.size 26 2 G cg gs ∧ Ob wr w.heap.size wr.heap.size 2 1 (.slice A (ordN m).length (ordN m).length) (ordN m).length (ints (ordI m)) ∧ Below w.heap.size w wr

end Go.Proofs.YtkmejkeanmjfbaaGreatDoor

/-! ### Pocket -/
namespace Go.Proofs.YtkmejkeanmjfbaaGreatDoor
open Go.RowKit

/-- Is there a hole in the row of a digit? -/
def dg (m d : Nat) : Bool := m / 2 ^ (d + 2) % 2 == 1
def digitFrom (m : Nat) : Nat → Int
  | 0 => if m = 4 then 0 else 12
  | d + 1 => if dg m (d + 1) = true then ((d + 1 : Nat) : Int) else digitFrom m d
def zoneP (m : Nat) : Int := if m % 2 = 1 then 11 else if m / 2 % 2 = 1 then 10 else if m / 4 % 2 = 1 ∧ 7 < m then 0 else if m ≠ 0 then 1 else 12
def pocketP (m : Nat) (mode : Int) : Int := if mode = 1 then digitFrom m 9 else zoneP m
def pocketI (v mode : Int) : Int := pocketP v.toNat mode
theorem digitFrom_range (m : Nat) (d : Nat) : 0 ≤ digitFrom m d ∧ (digitFrom m d ≤ d ∨ digitFrom m d = 12) := by
  induction d with
  | zero => unfold digitFrom; split <;> omega
  | succ d ih =>
    unfold digitFrom
    split
    · omega
    · omega
theorem zoneP_range (m : Nat) : zoneP m = 11 ∨ zoneP m = 10 ∨ zoneP m = 0 ∨ zoneP m = 1 ∨ zoneP m = 12 := by
  unfold zoneP
  repeat' split
  all_goals omega
theorem pocketI_range (v mode : Int) : 0 ≤ pocketI v mode ∧ pocketI v mode ≤ 12 := by
  unfold pocketI pocketP
  split
  · have := digitFrom_range v.toNat 9
    omega
  · have := zoneP_range v.toNat
    omega

theorem and_one12 (x : Nat) (h : x ≤ 4095) : bits .and .i64 (x : Int) 1 = ((x % 2 : Nat) : Int) := by
  have := i64_and_nat x 1 (by omega) (by omega)
  rw [show ((1 : Nat) : Int) = 1 from rfl, Nat.and_one_is_mod] at this
  exact this
theorem and_pow12 (m i : Nat) (h : m ≤ 4095) (hi : i ≤ 11) : bits .and .i64 (m : Int) ((2 ^ i : Nat) : Int) = ((m / 2 ^ i % 2 * 2 ^ i : Nat) : Int) := by
  have hp : 2 ^ i ≤ 2 ^ 11 := Nat.pow_le_pow_right (by omega) hi
  rw [i64_and_nat m (2 ^ i) (by omega) (by omega), nat_bit]
theorem pow_ne (m i : Nat) (h : m ≤ 4095) (hi : i ≤ 11) : (bits .and .i64 (m : Int) ((2 ^ i : Nat) : Int) != 0) = (m / 2 ^ i % 2 == 1) := by
  rw [and_pow12 m i h hi]
  have hp : 0 < 2 ^ i := Nat.pow_pos (by omega)
  have hq : ((1 * 2 ^ i : Nat) : Int) ≠ 0 := by rw [Nat.one_mul]; omega
  rcases Nat.mod_two_eq_zero_or_one (m / 2 ^ i) with h0 | h0 <;> rw [h0]
  · simp
  · rw [show (1 == 1) = true from rfl, bne_iff_ne]
    exact hq
theorem digit_yes {m d : Nat} (h : dg m (d + 1) = true) : digitFrom m (d + 1) = ((d + 1 : Nat) : Int) := by rw [digitFrom, if_pos h]
theorem digit_no {m d : Nat} (h : dg m (d + 1) = false) : digitFrom m (d + 1) = digitFrom m d := by rw [digitFrom, if_neg (by simp [h])]
theorem dgA_1 (m : Nat) (h : m ≤ 4095) : (bits .and .i64 ((m : Int) / 8) 1 == 1) = dg m 1 := by
  have e : ((m : Int) / 8) = ((m / 8 : Nat) : Int) := by omega
  rw [e, and_one12 _ (by omega)]
  unfold dg
  rcases Nat.mod_two_eq_zero_or_one (m / 8) with h0 | h0 <;> rw [h0] <;> simp
theorem dgB_1 (m : Nat) (h : m ≤ 4095) : (bits .and .i64 (m : Int) (bitV 1) != 0) = dg m 1 := pow_ne m 3 h (by omega)
theorem dgA_2 (m : Nat) (h : m ≤ 4095) : (bits .and .i64 ((m : Int) / 8 / 2) 1 == 1) = dg m 2 := by
  have e : ((m : Int) / 8 / 2) = ((m / 16 : Nat) : Int) := by omega
  rw [e, and_one12 _ (by omega)]
  unfold dg
  rcases Nat.mod_two_eq_zero_or_one (m / 16) with h0 | h0 <;> rw [h0] <;> simp
theorem dgB_2 (m : Nat) (h : m ≤ 4095) : (bits .and .i64 (m : Int) (bitV 2) != 0) = dg m 2 := pow_ne m 4 h (by omega)
theorem dgA_3 (m : Nat) (h : m ≤ 4095) : (bits .and .i64 ((m : Int) / 8 / 4) 1 == 1) = dg m 3 := by
  have e : ((m : Int) / 8 / 4) = ((m / 32 : Nat) : Int) := by omega
  rw [e, and_one12 _ (by omega)]
  unfold dg
  rcases Nat.mod_two_eq_zero_or_one (m / 32) with h0 | h0 <;> rw [h0] <;> simp
theorem dgB_3 (m : Nat) (h : m ≤ 4095) : (bits .and .i64 (m : Int) (bitV 3) != 0) = dg m 3 := pow_ne m 5 h (by omega)
theorem dgA_4 (m : Nat) (h : m ≤ 4095) : (bits .and .i64 ((m : Int) / 8 / 8) 1 == 1) = dg m 4 := by
  have e : ((m : Int) / 8 / 8) = ((m / 64 : Nat) : Int) := by omega
  rw [e, and_one12 _ (by omega)]
  unfold dg
  rcases Nat.mod_two_eq_zero_or_one (m / 64) with h0 | h0 <;> rw [h0] <;> simp
theorem dgB_4 (m : Nat) (h : m ≤ 4095) : (bits .and .i64 (m : Int) (bitV 4) != 0) = dg m 4 := pow_ne m 6 h (by omega)
theorem dgA_5 (m : Nat) (h : m ≤ 4095) : (bits .and .i64 ((m : Int) / 8 / 16) 1 == 1) = dg m 5 := by
  have e : ((m : Int) / 8 / 16) = ((m / 128 : Nat) : Int) := by omega
  rw [e, and_one12 _ (by omega)]
  unfold dg
  rcases Nat.mod_two_eq_zero_or_one (m / 128) with h0 | h0 <;> rw [h0] <;> simp
theorem dgB_5 (m : Nat) (h : m ≤ 4095) : (bits .and .i64 (m : Int) (bitV 5) != 0) = dg m 5 := pow_ne m 7 h (by omega)
theorem dgA_6 (m : Nat) (h : m ≤ 4095) : (bits .and .i64 ((m : Int) / 8 / 32) 1 == 1) = dg m 6 := by
  have e : ((m : Int) / 8 / 32) = ((m / 256 : Nat) : Int) := by omega
  rw [e, and_one12 _ (by omega)]
  unfold dg
  rcases Nat.mod_two_eq_zero_or_one (m / 256) with h0 | h0 <;> rw [h0] <;> simp
theorem dgB_6 (m : Nat) (h : m ≤ 4095) : (bits .and .i64 (m : Int) (bitV 6) != 0) = dg m 6 := pow_ne m 8 h (by omega)
theorem dgA_7 (m : Nat) (h : m ≤ 4095) : (bits .and .i64 ((m : Int) / 8 / 64) 1 == 1) = dg m 7 := by
  have e : ((m : Int) / 8 / 64) = ((m / 512 : Nat) : Int) := by omega
  rw [e, and_one12 _ (by omega)]
  unfold dg
  rcases Nat.mod_two_eq_zero_or_one (m / 512) with h0 | h0 <;> rw [h0] <;> simp
theorem dgB_7 (m : Nat) (h : m ≤ 4095) : (bits .and .i64 (m : Int) (bitV 7) != 0) = dg m 7 := pow_ne m 9 h (by omega)
theorem dgA_8 (m : Nat) (h : m ≤ 4095) : (bits .and .i64 ((m : Int) / 8 / 128) 1 == 1) = dg m 8 := by
  have e : ((m : Int) / 8 / 128) = ((m / 1024 : Nat) : Int) := by omega
  rw [e, and_one12 _ (by omega)]
  unfold dg
  rcases Nat.mod_two_eq_zero_or_one (m / 1024) with h0 | h0 <;> rw [h0] <;> simp
theorem dgB_8 (m : Nat) (h : m ≤ 4095) : (bits .and .i64 (m : Int) (bitV 8) != 0) = dg m 8 := pow_ne m 10 h (by omega)
theorem dgA_9 (m : Nat) (h : m ≤ 4095) : (bits .and .i64 ((m : Int) / 8 / 256) 1 == 1) = dg m 9 := by
  have e : ((m : Int) / 8 / 256) = ((m / 2048 : Nat) : Int) := by omega
  rw [e, and_one12 _ (by omega)]
  unfold dg
  rcases Nat.mod_two_eq_zero_or_one (m / 2048) with h0 | h0 <;> rw [h0] <;> simp
theorem dgB_9 (m : Nat) (h : m ≤ 4095) : (bits .and .i64 (m : Int) (bitV 9) != 0) = dg m 9 := pow_ne m 11 h (by omega)

theorem z0 (m : Nat) (h : m ≤ 4095) : (bits .and .i64 (m : Int) 1 != 0) = (m % 2 == 1) := by
  have := pow_ne m 0 h (by omega)
  simpa using this
theorem z1 (m : Nat) (h : m ≤ 4095) : (bits .and .i64 (m : Int) 2 != 0) = (m / 2 % 2 == 1) := pow_ne m 1 h (by omega)
theorem z2 (m : Nat) (h : m ≤ 4095) : (bits .and .i64 (m : Int) 4 != 0) = (m / 4 % 2 == 1) := pow_ne m 2 h (by omega)

end Go.Proofs.YtkmejkeanmjfbaaGreatDoor

/-! ### FuncsPass -/
namespace Go.Proofs.YtkmejkeanmjfbaaGreatDoor
open Go.RowKit

end Go.Proofs.YtkmejkeanmjfbaaGreatDoor

/-! ### Passes -/
namespace Go.Proofs.YtkmejkeanmjfbaaGreatDoor
open Go.RowKit

def modeB (m : Int) : Bool := decide (m = 1) || decide (m = 2)
theorem modeB_true {m : Int} (h : modeB m = true) : m = 1 ∨ m = 2 := by simpa [modeB] using h
def passOk (cols : Int) (p : Int × Int) : Bool := insideB p.1 0 (cols - 1) && modeB p.2
def passesOk (cols : Int) (ps : List (Int × Int)) : Bool := decide (ps.length ≤ 40) && ps.all (passOk cols)

theorem any_not_all {α : Type} (p : α → Bool) (l : List α) : (l.any fun x => !p x) = !l.all p := by
  induction l with
  | nil => rfl
  | cons a l ih => simp [ih]

/-- HandledCards: is there an answer? -/
def handledOk (n : Int) (ps : List (Int × Int)) : Bool := insideB n 0 1000000 && passesOk 20 ps
def handledRes (n : Int) (ps : List (Int × Int)) : Int := if handledOk n ps = true then n * (ps.length : Int) else 0
def handledCode (n : Int) (ps : List (Int × Int)) : Int := if handledOk n ps = true then 0 else 2
theorem passesOk_len {cols : Int} {ps : List (Int × Int)} (h : passesOk cols ps = true) : ps.length ≤ 40 := by
  simp [passesOk] at h
  exact h.1
theorem mul_bounds {n m : Int} (h0 : 0 ≤ n) (h1 : n ≤ 1000000) (h2 : 0 ≤ m) (h3 : m ≤ 40) : 0 ≤ n * m ∧ n * m ≤ 40000000 :=
  ⟨Int.mul_nonneg h0 h2, by have := Int.mul_le_mul h1 h3 h2 (by omega); omega⟩

end Go.Proofs.YtkmejkeanmjfbaaGreatDoor
