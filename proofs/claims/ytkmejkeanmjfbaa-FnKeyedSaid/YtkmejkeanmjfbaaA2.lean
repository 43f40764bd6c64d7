/- What the laws over drawn decks share: their sizes, numbers out of bytes, fields; comparing, cards and decks that are the same, in the reference. -/
import Derived.Test.YtkmejkeanmjfbaaDrawAll
import Derived.Test.YtkmejkeanmjfbaaSame
import Derived.Test.YtkmejkeanmjfbaaLater
namespace Go.Proofs.Ytkmejkeanmjfbaa
open Go.RowKit

/-! ### the draws' sources -/
theorem l00From_any (A : Option Addr) (n c : Nat) (bs : List UInt8) (w : World) (ha : Rd w w.heap.size 1 A n (byts bs)) (hn : n ≤ 1048576) :
    Calls Try.prog 28 #[.slice A n c] w fun e w' => ∃ p, w.heap.size ≤ p ∧ e = .returned (.pointer (some ⟨p, 0, none⟩)) ∧ SrcK w' p 0 ∧ Below w.heap.size w w' := by
  go_enter Try.func28, Try.ntmps28
  go_wp2
  go_ret
  refine ⟨w.heap.size, Nat.le_refl _, rfl, ⟨A, n, c, 0, bs, 0, cell_new rfl rfl, cell_new rfl rfl, cell_new rfl rfl, froz_new rfl, froz_new rfl, ha.alloc (Nat.le_refl _) _, hn, Nat.le_refl _⟩, ba (b0 w) _⟩

/-! ### numbers out of bytes -/
def a2W (L : List (List Int)) : Nat := if L.length = 0 then 1 else wid0 L
theorem good_deck {wd : Nat} {L : List (List Int)} (h : GoodD wd L) (h1 : 1 ≤ wd) (h2 : wd ≤ 20) (h3 : L.length ≤ 40) : deckOk L = true ∧ (0 < L.length → wid0 L = wd) := by
  have hw : 0 < L.length → wid0 L = wd := by
    intro h0
    cases L with
    | nil => simp at h0
    | cons x L => exact (h x (List.mem_cons_self ..)).1
  refine ⟨?_, hw⟩
  unfold deckOk
  rw [decide_eq_true h3, Bool.and_true]
  refine List.all_eq_true.2 fun x hx => ?_
  obtain ⟨g1, _, g3⟩ := h x hx
  unfold deckP cardOk
  rw [g1, g3, hw (List.length_pos_of_mem hx), insideB_mk (by omega) (by omega)]
  simp
theorem good_part {wd : Nat} {x : List Int} (h : GoodX wd x) (a b : Int) : legalL (part x a b) = true := by
  refine List.all_eq_true.2 fun m hm => List.all_eq_true.1 h.2.1 m ?_
  exact List.mem_of_mem_drop (List.mem_of_mem_take hm)
theorem good_have {wd : Nat} {L : List (List Int)} (h : GoodD wd L) (a b : Int) : haveF L a b = true :=
  List.all_eq_true.2 fun x hx => good_part (h x hx) a b
theorem good_w {wd : Nat} {L : List (List Int)} (h : GoodD wd L) (h1 : 1 ≤ wd) (h2 : wd ≤ 20) (h3 : L.length ≤ 40) : 1 ≤ a2W L ∧ a2W L ≤ deckW L ∧ a2W L ≤ wd := by
  have := (good_deck h h1 h2 h3).2
  unfold a2W deckW
  by_cases h0 : L.length = 0
  · rw [if_pos h0, if_pos h0]; omega
  · rw [if_neg h0, if_neg h0, this (by omega)]; omega
theorem good_codeK {wd : Nat} {L : List (List Int)} {i j : Nat} (h : GoodD wd L) (h1 : 1 ≤ wd) (h2 : wd ≤ 20) (h3 : L.length ≤ 40) (hij : i < j) (hj : j ≤ a2W L) : codeK L (i : Int) (j : Int) = 0 := by
  have hw := good_w h h1 h2 h3
  have hf : fieldOk (i : Int) (j : Int) (deckW L : Int) = true := by
    unfold fieldOk
    simp
    omega
  unfold codeK
  rw [if_pos (good_deck h h1 h2 h3).1, if_pos hf, if_pos (good_have h _ _)]
theorem good_tot {wd : Nat} {hs : List Hd} (h : GoodD wd (cards hs)) (h2 : wd ≤ 20) (h3 : hs.length ≤ 40) : hs.length + tot hs ≤ 840 := by
  have : tot hs ≤ hs.length * 20 := tot_le fun x hx => by
    have := (h x.xs (List.mem_map.2 ⟨x, hx, rfl⟩)).1
    omega
  omega

/-! ### the same, compared; in the reference -/
theorem l00Same_eq (A A' : Option Addr) (c c' : Nat) (xs ys : List Int) (w : World) (h : xs = ys) (ha : Rd w w.heap.size 1 A xs.length (ints xs)) (hb : Rd w w.heap.size 1 A' ys.length (ints ys)) (hl : xs.length ≤ 1048576) :
    Calls Try.prog 48 #[.slice A xs.length c, .slice A' ys.length c'] w fun e w' => e = .returned (.bool true) ∧ Below w.heap.size w w' := by
  have := l00Same_any A A' c c' xs ys w ha hb hl (by rw [← h]; exact hl)
  rwa [decide_eq_true h] at this
theorem spSameCard_eq (A A' : Option Addr) (c c' : Nat) (xs ys : List Int) (w : World) (h : xs = ys) (ha : Rd w w.heap.size 1 A xs.length (ints xs)) (hb : Rd w w.heap.size 1 A' ys.length (ints ys)) (hl : xs.length ≤ 1048576) :
    Calls Try.prog 19 #[.agg #[.slice A xs.length c], .agg #[.slice A' ys.length c']] w fun e w' => e = .returned (.bool true) ∧ Below w.heap.size w w' := by
  have H := Lib.hid h
  clear h
  go_enter Try.func19, Try.ntmps19
  go_wp2_with fail
  refine (l00Same_eq A A' c c' xs ys _ H.out ((ha.a1 _).a1 _) ((hb.a1 _).a1 _) hl).mono ?_; rintro e w1 ⟨rfl, hb1⟩
  go_wp2
  go_ret
  exact ⟨rfl, bs (ba (ba (b0 _) _) _) hb1⟩

end Go.Proofs.Ytkmejkeanmjfbaa
