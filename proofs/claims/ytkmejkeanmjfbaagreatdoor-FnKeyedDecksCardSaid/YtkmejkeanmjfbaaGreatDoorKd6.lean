/- Words on decks in memory: a row of headers of cards, and the cards' own rows. Words on lists of decks in memory: a row of headers of decks, each a row of headers of cards. -/
import Derived.Test.YtkmejkeanmjfbaaGreatDoorKd1
/-! ### Decks2 -/
/-! ### Words on decks in memory: a row of headers of cards, and the cards' own rows. -/
namespace Go.Proofs.YtkmejkeanmjfbaaGreatDoor
open Go.RowKit

/-- A card in memory: where its columns lie, its capacity, and its columns. -/
structure Hd where
  a : Option Addr
  c : Nat
  xs : List Int
def Hd.cell (h : Hd) : Value := .slice h.a h.xs.length h.c
def heads (hs : List Hd) : List Value := hs.map Hd.cell
def cards (hs : List Hd) : List (List Int) := hs.map Hd.xs
theorem heads_length (hs : List Hd) : (heads hs).length = hs.length := by simp [heads]
theorem cards_length (hs : List Hd) : (cards hs).length = hs.length := by simp [cards]
theorem heads_get (hs : List Hd) (k : Nat) (h : k < hs.length) : (heads hs)[k]? = some (.slice hs[k].a hs[k].xs.length hs[k].c) := by simp [heads, h, Hd.cell]
theorem heads_one (hs : List Hd) : ∀ u ∈ heads hs, u.oneCell' = true := by
  intro u hu
  simp only [heads, List.mem_map] at hu
  obtain ⟨h, _, rfl⟩ := hu
  rfl
theorem cards_get (hs : List Hd) (k : Nat) (h : k < hs.length) : (cards hs)[k]? = some hs[k].xs := by simp [cards, h]
theorem cards_at (hs : List Hd) (k : Nat) (h : k < (cards hs).length) : (cards hs)[k] = (hs[k]'(by simpa [cards] using h)).xs := by simp [cards]
theorem heads_append (hs gs : List Hd) : heads (hs ++ gs) = heads hs ++ heads gs := by simp [heads]
theorem cards_append (hs gs : List Hd) : cards (hs ++ gs) = cards hs ++ cards gs := by simp [cards]
theorem cards_take (hs : List Hd) (k : Nat) : cards (hs.take k) = (cards hs).take k := by simp [cards]
theorem cards_drop (hs : List Hd) (k : Nat) : cards (hs.drop k) = (cards hs).drop k := by simp [cards]
theorem cards_snoc (hs : List Hd) (k : Nat) (h : k < hs.length) : cards (hs.take (k + 1)) = cards (hs.take k) ++ [hs[k].xs] := by
  rw [List.take_succ_eq_append_getElem h, cards_append]
  rfl
/-- Decks of the same cards are of the same length, card for card. -/
theorem cards_same {hs gs : List Hd} (h : cards hs = cards gs) : hs.length = gs.length ∧ ∀ k (h1 : k < hs.length) (h2 : k < gs.length), hs[k].xs = gs[k].xs := by
  have hl : hs.length = gs.length := by rw [← cards_length hs, h, cards_length]
  refine ⟨hl, fun k h1 h2 => ?_⟩
  have := congrArg (fun l => l[k]?) h
  simpa [cards_get _ _ h1, cards_get _ _ h2] using this

/-- How many columns all cards have. -/
def tot (hs : List Hd) : Nat := (hs.map fun h => h.xs.length).sum
theorem tot_append (hs gs : List Hd) : tot (hs ++ gs) = tot hs + tot gs := by simp [tot]
theorem tot_cons (h : Hd) (hs : List Hd) : tot (h :: hs) = h.xs.length + tot hs := by simp [tot]
theorem tot_take_succ (hs : List Hd) (k : Nat) (h : k < hs.length) : tot (hs.take (k + 1)) = tot (hs.take k) + hs[k].xs.length := by
  rw [List.take_succ_eq_append_getElem h, tot_append]
  simp [tot]
theorem tot_take_le (hs : List Hd) (k : Nat) : tot (hs.take k) ≤ tot hs := by
  have := tot_append (hs.take k) (hs.drop k)
  rw [List.take_append_drop] at this
  omega
theorem tot_mem {hs : List Hd} {h : Hd} (hm : h ∈ hs) : h.xs.length ≤ tot hs := by
  induction hs with
  | nil => cases hm
  | cons x hs ih =>
    rw [tot_cons]
    rcases List.mem_cons.1 hm with rfl | hm
    · omega
    · have := ih hm
      omega
theorem tot_at (hs : List Hd) (k : Nat) (h : k < hs.length) : hs[k].xs.length ≤ tot hs := tot_mem (List.getElem_mem h)
theorem tot_cards {hs gs : List Hd} (h : cards hs = cards gs) : tot hs = tot gs := by
  have e : ∀ l : List Hd, tot l = ((cards l).map List.length).sum := fun l => by simp [tot, cards, Function.comp_def]
  rw [e, e, h]
/-- Of a deck of at most n cards of at most m columns. -/
theorem tot_le {hs : List Hd} {m : Nat} (h : ∀ x ∈ hs, x.xs.length ≤ m) : tot hs ≤ hs.length * m := by
  induction hs with
  | nil => simp [tot]
  | cons x hs ih =>
    rw [tot_cons, List.length_cons, Nat.add_mul, Nat.one_mul]
    have h1 := h x (by simp)
    have h2 := ih fun y hy => h y (by simp [hy])
    omega

/-- A deck that is read; all its blocks lie below B. -/
structure RdD (w : World) (B : Nat) (D : Option Addr) (hs : List Hd) : Prop where
  row : Rd w B 1 D hs.length (heads hs)
  card : ∀ h ∈ hs, Rd w B 1 h.a h.xs.length (ints h.xs)
  cap : ∀ h ∈ hs, h.xs.length ≤ h.c
section
variable {w w' : World} {B B' : Nat} {D : Option Addr} {hs : List Hd}
theorem RdD.keep (h : RdD w B D hs) (hk : ∀ b o, b < B → w'.cell? ⟨b, o, none⟩ = w.cell? ⟨b, o, none⟩) : RdD w' B D hs := ⟨h.row.keep hk, fun x hx => (h.card x hx).keep hk, h.cap⟩
theorem RdD.more (h : RdD w B D hs) (hB : B ≤ B') : RdD w B' D hs := ⟨h.row.more hB, fun x hx => (h.card x hx).more hB, h.cap⟩
theorem RdD.below (h : RdD w B D hs) (hb : Below B w w') : RdD w' B D hs := ⟨h.row.below hb, fun x hx => (h.card x hx).below hb, h.cap⟩
theorem RdD.bs (h : RdD w B D hs) (hB : B ≤ w.heap.size) (hb : Below w.heap.size w w') : RdD w' B D hs := h.below (hb.mono hB)
theorem RdD.drew (h : RdD w B D hs) : RdD w.drew B D hs := ⟨h.row, h.card, h.cap⟩
theorem RdD.drewN (h : RdD w B D hs) (k : Nat) : RdD (w.drewN k) B D hs := ⟨h.row, h.card, h.cap⟩
theorem RdD.alloc (h : RdD w B D hs) (hB : B ≤ w.heap.size) (o : Obj) : RdD (w.alloc o) B D hs := ⟨h.row.alloc hB o, fun x hx => (h.card x hx).alloc hB o, h.cap⟩
theorem RdD.up (h : RdD w w.heap.size D hs) (hb : Below w.heap.size w w') : RdD w' w'.heap.size D hs := ⟨h.row.up hb, fun x hx => (h.card x hx).up hb, h.cap⟩
theorem RdD.a1 (h : RdD w w.heap.size D hs) (o : Obj) : RdD (w.alloc o) (w.alloc o).heap.size D hs := ⟨h.row.a1 o, fun x hx => (h.card x hx).a1 o, h.cap⟩
theorem RdD.nil (w : World) (B : Nat) (D : Option Addr) : RdD w B D [] := ⟨Rd.nil _ _ _ _, by simp, by simp⟩
/-- The header of a card, at its place. -/
theorem RdD.at_ (h : RdD w B D hs) {k : Nat} (hk : k < hs.length) : ∃ b off, D = some ⟨b, off, none⟩ ∧ b < B ∧ ∀ j (hj : j < hs.length), w.cell? ⟨b, off + j, none⟩ = some (.slice hs[j].a hs[j].xs.length hs[j].c) := by
  obtain ⟨b, off, hD, hb, hc⟩ := h.row.at_ hk
  exact ⟨b, off, hD, hb, fun j hj => hc _ _ (heads_get hs j hj)⟩
theorem RdD.card_at (h : RdD w B D hs) {k : Nat} (hk : k < hs.length) : Rd w B 1 hs[k].a hs[k].xs.length (ints hs[k].xs) := h.card _ (List.getElem_mem hk)
theorem RdD.cap_at (h : RdD w B D hs) {k : Nat} (hk : k < hs.length) : hs[k].xs.length ≤ hs[k].c := h.cap _ (List.getElem_mem hk)
end

/-- No two cards share a block. -/
def Apart (hs : List Hd) : Prop := hs.Pairwise fun x y => ∀ g, x.a = some ⟨g, 0, none⟩ → y.a ≠ some ⟨g, 0, none⟩
theorem Apart.at_ {hs : List Hd} (h : Apart hs) {i j g : Nat} (hi : i < hs.length) (hj : j < hs.length) (hne : i ≠ j) (e1 : hs[i].a = some ⟨g, 0, none⟩) : hs[j].a ≠ some ⟨g, 0, none⟩ := by
  intro e2
  rcases Nat.lt_or_gt_of_ne hne with hlt | hlt
  · exact List.pairwise_iff_getElem.1 h i j hi hj hlt g e1 e2
  · exact List.pairwise_iff_getElem.1 h j i hj hi hlt g e2 e1

/-- A deck of the call's own: its row, its cards' rows, all in blocks lo .. hi-1; no two cards share a block. -/
structure ObD (w : World) (lo hi : Nat) (eD eC : TypeId) (D : Option Addr) (c : Nat) (hs : List Hd) : Prop where
  row : Ob w lo hi eD 1 (.slice D hs.length c) hs.length (heads hs)
  card : ∀ h ∈ hs, Ob w lo hi eC 1 (.slice h.a h.xs.length h.c) h.xs.length (ints h.xs)
  apart : Apart hs

theorem Ob.mono {w : World} {lo hi lo' hi' : Nat} {e : TypeId} {size : Nat} {v : Value} {n : Nat} {xs : List Value} (h : Ob w lo hi e size v n xs) (h1 : lo' ≤ lo) (h2 : hi ≤ hi') : Ob w lo' hi' e size v n xs :=
  ⟨own_base h.1 h1, fun k hk => Nat.lt_of_lt_of_le (h.2 k hk) h2⟩
theorem Ob.below {w : World} {lo hi : Nat} {e : TypeId} {size : Nat} {v : Value} {n : Nat} {xs : List Value} (h : Ob w lo hi e size v n xs) (b o : Nat) (u : Value) (hb : b < lo) : Ob (w.setCell ⟨b, o, none⟩ u) lo hi e size v n xs :=
  ⟨own_below h.1 b o u hb, h.2⟩
/-- Rows of different element types lie in different blocks. -/
theorem own_ne {w : World} {lo lo' : Nat} {e e' : TypeId} {size size' n n' m m' c c' : Nat} {xs ys : List Value} {A A' : Option Addr} (h : w.ownsRow lo e size (.slice A m c) n xs) (h' : w.ownsRow lo' e' size' (.slice A' m' c') n' ys) (hne : e ≠ e') :
    (Value.slice A m c).ownBlock = none ∨ (Value.slice A m c).ownBlock ≠ (Value.slice A' m' c').ownBlock := by
  rcases h.2 with ⟨hv, _⟩ | ⟨g, cap, cur, hv, _, hg, _⟩
  · left
    rw [hv]
    rfl
  · right
    rcases h'.2 with ⟨hv', _⟩ | ⟨g', cap', cur', hv', _, hg', _⟩
    · rw [hv, hv']
      simp [Value.ownBlock]
    · rw [hv, hv']
      simp only [Value.ownBlock, ne_eq, Option.some.injEq]
      rintro rfl
      rw [hg] at hg'
      injection hg' with hg'
      injection hg' with _ he
      exact hne he
theorem Ob.kept {w w' : World} {lo hi : Nat} {e : TypeId} {size : Nat} {v : Value} {n : Nat} {xs : List Value} {row : Option Nat} (h : Ob w lo hi e size v n xs) (hg : w.grownBy w' row) (hne : v.ownBlock = none ∨ v.ownBlock ≠ row) : Ob w' lo hi e size v n xs :=
  ⟨h.1.kept hg hne, h.2⟩

section
variable {w w' : World} {lo hi lo' hi' : Nat} {eD eC : TypeId} {D : Option Addr} {c : Nat} {hs : List Hd}
theorem ObD.rd (h : ObD w lo hi eD eC D c hs) : RdD w w.heap.size D hs :=
  ⟨h.row.rd, fun x hx => (h.card x hx).rd, fun x hx => (own_cap (h.card x hx).1).1⟩
theorem ObD.mono (h : ObD w lo hi eD eC D c hs) (h1 : lo' ≤ lo) (h2 : hi ≤ hi') : ObD w lo' hi' eD eC D c hs := ⟨h.row.mono h1 h2, fun x hx => (h.card x hx).mono h1 h2, h.apart⟩
theorem ObD.bs (h : ObD w lo hi eD eC D c hs) (hb : Below w.heap.size w w') : ObD w' lo hi eD eC D c hs := ⟨h.row.bs hb, fun x hx => (h.card x hx).bs hb, h.apart⟩
theorem ObD.chg {l r : Nat} (h : ObD w lo hi eD eC D c hs) (k : Chg l r w w') (ho : hi ≤ l ∨ r ≤ lo) : ObD w' lo hi eD eC D c hs := ⟨h.row.chg k ho, fun x hx => (h.card x hx).chg k ho, h.apart⟩
theorem ObD.alloc (h : ObD w lo hi eD eC D c hs) (o : Obj) : ObD (w.alloc o) lo hi eD eC D c hs := h.bs (ba (b0 _) _)
theorem ObD.below (h : ObD w lo hi eD eC D c hs) (b o : Nat) (u : Value) (hb : b < lo) : ObD (w.setCell ⟨b, o, none⟩ u) lo hi eD eC D c hs :=
  ⟨h.row.below b o u hb, fun x hx => (h.card x hx).below b o u hb, h.apart⟩
theorem ObD.empty (h : Ob w lo hi eD 1 (.slice D 0 c) 0 []) : ObD w lo hi eD eC D c [] := ⟨h, by simp, List.Pairwise.nil⟩
theorem ObD.nil (w : World) (lo hi : Nat) (eD eC : TypeId) : ObD w lo hi eD eC none 0 [] := ObD.empty ⟨World.ownsRow_nil _ _ _ _, by simp [Value.ownBlock]⟩
theorem ObD.cap (h : ObD w lo hi eD eC D c hs) : hs.length ≤ c ∧ c ≤ maxLen := own_cap h.row.1
/-- An owned row's block, with a spot of none. -/
theorem ob_form {e : TypeId} {size : Nat} {A : Option Addr} {n m : Nat} {xs : List Value} (h : Ob w lo hi e size (.slice A n c) m xs) {ad : Addr} (ha : A = some ad) : ad = ⟨ad.block, 0, none⟩ ∧ lo ≤ ad.block ∧ ad.block < hi := by
  subst ha
  rcases h.1.2 with ⟨hv, _⟩ | ⟨g, cap, cur, hv, hb, hg, _⟩
  · cases hv
  · injection hv with hv
    injection hv with hv
    subst hv
    exact ⟨rfl, hb, h.2 g rfl⟩
/-- One card more, laid above all that was there. -/
theorem ObD.snoc (h : ObD w lo hi eD eC D c hs) (hne : eC ≠ eD) {B : Option Addr} {d : Nat} {xs : List Int} {l1 h1 : Nat} (hc : Ob w l1 h1 eC 1 (.slice B xs.length d) xs.length (ints xs)) (hl : hi ≤ l1) (hll : lo ≤ l1) {D' : Option Addr} {c' : Nat}
    (hrow : w'.ownsRow lo eD 1 (.slice D' (hs.length + 1) c') (hs.length + 1) (heads hs ++ [.slice B xs.length d])) (hg : w.grownBy w' (Value.slice D hs.length c).ownBlock) (hhi : hi ≤ w.heap.size) (hh1 : h1 ≤ w.heap.size) :
    ObD w' lo w'.heap.size eD eC D' c' (hs ++ [⟨B, d, xs⟩]) := by
  have hz := hg.size
  refine ⟨?_, ?_, ?_⟩
  · rw [heads_append, List.length_append]
    exact Ob.of hrow
  · intro y hy
    rcases List.mem_append.1 hy with hy | hy
    · exact ((h.card y hy).kept hg (own_ne (h.card y hy).1 h.row.1 hne)).mono (Nat.le_refl _) (by omega)
    · rw [List.mem_singleton] at hy
      subst hy
      exact (hc.kept hg (own_ne hc.1 h.row.1 hne)).mono hll (by omega)
  · refine List.pairwise_append.2 ⟨h.apart, List.pairwise_singleton _ _, ?_⟩
    intro x hx y hy g e1 e2
    rw [List.mem_singleton] at hy
    subst hy
    have h2 := ob_form (h.card x hx) e1
    have h3 := ob_form hc e2
    simp only at h2 h3
    omega
/-- A deck's card is written anew. -/
theorem ObD.mark (h : ObD w lo hi eD eC D c hs) (hne : eD ≠ eC) {j : Nat} (hj : j < hs.length) {ys : List Int} (hy : ys.length = hs[j].xs.length) (ho : w'.ownsRow lo eC 1 (.slice hs[j].a hs[j].xs.length hs[j].c) hs[j].xs.length (ints ys))
    (hg : w.grownBy w' (Value.slice hs[j].a hs[j].xs.length hs[j].c).ownBlock) : ObD w' lo hi eD eC D c (hs.set j ⟨hs[j].a, hs[j].c, ys⟩) := by
  have hcj := h.card _ (List.getElem_mem hj)
  have hheads : heads (hs.set j ⟨hs[j].a, hs[j].c, ys⟩) = heads hs := by
    apply List.ext_getElem?
    intro k
    by_cases hk : k < hs.length
    · rw [heads_get _ _ (by simpa using hk), heads_get _ _ hk]
      by_cases e : j = k
      · subst e
        simp [hy]
      · simp [e]
    · rw [List.getElem?_eq_none (by rw [heads_length, List.length_set]; omega), List.getElem?_eq_none (by rw [heads_length]; omega)]
  refine ⟨?_, ?_, ?_⟩
  · rw [hheads, List.length_set]
    exact h.row.kept hg (own_ne h.row.1 hcj.1 hne)
  · intro y hy'
    obtain ⟨k, hk, rfl⟩ := List.mem_iff_getElem.1 hy'
    simp only [List.length_set] at hk
    by_cases e : j = k
    · subst e
      simp only [List.getElem_set_self]
      rw [hy]
      exact ⟨ho, hcj.2⟩
    · simp only [List.getElem_set_ne e]
      have hck := h.card _ (List.getElem_mem hk)
      refine hck.kept hg ?_
      cases ha : hs[k].a with
      | none => exact .inl rfl
      | some ad =>
        right
        have h1 := ob_form hck ha
        cases hb : hs[j].a with
        | none => simp [Value.ownBlock]
        | some ad' =>
          have h2 := ob_form hcj hb
          simp only [Value.ownBlock, ne_eq, Option.some.injEq]
          intro e3
          refine h.apart.at_ hj hk e (g := ad'.block) ?_ ?_
          · rw [hb]; exact congrArg some h2.1
          · rw [ha, ← e3]; exact congrArg some h1.1
  · refine List.pairwise_iff_getElem.2 ?_
    intro p q hp hq hpq g e1 e2
    simp only [List.length_set] at hp hq
    have ha : ∀ k (hk : k < hs.length), ((hs.set j ⟨hs[j].a, hs[j].c, ys⟩)[k]'(by simpa using hk)).a = hs[k].a := by
      intro k hk
      by_cases e : j = k
      · subst e
        simp
      · simp [e]
    rw [ha p hp] at e1
    rw [ha q hq] at e2
    exact h.apart.at_ hp hq (by omega) e1 e2
end

/-- The cards of a deck that marks have been written into, from the number k on. -/
def markD (k : Int) : List Hd → List Hd
  | [] => []
  | h :: hs => ⟨h.a, h.c, marks k h.xs.length⟩ :: markD (k + (h.xs.length : Int)) hs
theorem markD_length (k : Int) (hs : List Hd) : (markD k hs).length = hs.length := by
  induction hs generalizing k with
  | nil => rfl
  | cons h hs ih => simp [markD, ih]
theorem markD_append (k : Int) (hs gs : List Hd) : markD k (hs ++ gs) = markD k hs ++ markD (k + (tot hs : Int)) gs := by
  induction hs generalizing k with
  | nil => simp [markD, tot]
  | cons h hs ih =>
    simp only [List.cons_append, markD, ih, tot_cons]
    rw [show k + (h.xs.length : Int) + (tot hs : Int) = k + ((h.xs.length + tot hs : Nat) : Int) by omega]
theorem markD_get (k : Int) (hs : List Hd) (j : Nat) (hj : j < hs.length) : (markD k hs)[j]'(by rw [markD_length]; exact hj) = ⟨hs[j].a, hs[j].c, marks (k + (tot (hs.take j) : Int)) hs[j].xs.length⟩ := by
  induction hs generalizing k j with
  | nil => simp at hj
  | cons h hs ih =>
    cases j with
    | zero => simp [markD, tot]
    | succ j =>
      simp only [markD, List.getElem_cons_succ, List.take_succ_cons, tot_cons]
      rw [ih]
      rw [show k + (h.xs.length : Int) + (tot (hs.take j) : Int) = k + ((h.xs.length + tot (hs.take j) : Nat) : Int) by omega]
theorem markD_tot (k : Int) (hs : List Hd) : tot (markD k hs) = tot hs := by
  induction hs generalizing k with
  | nil => rfl
  | cons h hs ih => simp only [markD, tot_cons, ih, marks_length]
/-- How far the marks have come. -/
def markTo (k : Int) (j : Nat) (hs : List Hd) : List Hd := markD k (hs.take j) ++ hs.drop j
theorem markTo_zero (k : Int) (hs : List Hd) : markTo k 0 hs = hs := by simp [markTo, markD]
theorem markTo_all (k : Int) (hs : List Hd) : markTo k hs.length hs = markD k hs := by simp [markTo]
theorem markTo_length (k : Int) (j : Nat) (hs : List Hd) : (markTo k j hs).length = hs.length := by
  simp only [markTo, List.length_append, markD_length, List.length_take, List.length_drop]
  omega
theorem markTo_at (k : Int) (j : Nat) (hs : List Hd) (hj : j < hs.length) : (markTo k j hs)[j]'(by rw [markTo_length]; exact hj) = hs[j] := by
  unfold markTo
  rw [List.getElem_append_right (by rw [markD_length, List.length_take]; omega)]
  simp only [markD_length, List.length_take, Nat.min_eq_left (Nat.le_of_lt hj), Nat.sub_self, List.getElem_drop, Nat.add_zero]
theorem markTo_succ (k : Int) (j : Nat) (hs : List Hd) (hj : j < hs.length) : (markTo k j hs).set j ⟨hs[j].a, hs[j].c, marks (k + (tot (hs.take j) : Int)) hs[j].xs.length⟩ = markTo k (j + 1) hs := by
  unfold markTo
  rw [List.set_append_right _ _ (by rw [markD_length, List.length_take]; omega), List.take_succ_eq_append_getElem hj, markD_append, List.append_assoc]
  congr 1
  simp only [markD_length, List.length_take, Nat.min_eq_left (Nat.le_of_lt hj), Nat.sub_self]
  rw [List.drop_eq_getElem_cons hj, List.set_cons_zero]
  rfl

/-- A deck whose row has been made whole and whose first cards have been laid in. -/
structure PaD (w : World) (lo hi : Nat) (eD eC : TypeId) (D : Option Addr) (n c : Nat) (gs : List Hd) : Prop where
  row : ∃ ys, Ob w lo hi eD 1 (.slice D n c) n ys ∧ ys.take gs.length = heads gs
  card : ∀ h ∈ gs, Ob w lo hi eC 1 (.slice h.a h.xs.length h.c) h.xs.length (ints h.xs)
  apart : Apart gs
section
variable {w w' : World} {lo hi lo' hi' : Nat} {eD eC : TypeId} {D : Option Addr} {n c : Nat} {gs : List Hd}
theorem PaD.bs (h : PaD w lo hi eD eC D n c gs) (hb : Below w.heap.size w w') : PaD w' lo hi eD eC D n c gs := by
  obtain ⟨⟨ys, h1, h2⟩, h3, h4⟩ := h
  exact ⟨⟨ys, h1.bs hb, h2⟩, fun x hx => (h3 x hx).bs hb, h4⟩
theorem PaD.mono (h : PaD w lo hi eD eC D n c gs) (h1 : lo' ≤ lo) (h2 : hi ≤ hi') : PaD w lo' hi' eD eC D n c gs := by
  obtain ⟨⟨ys, h3, h4⟩, h5, h6⟩ := h
  exact ⟨⟨ys, h3.mono h1 h2, h4⟩, fun x hx => (h5 x hx).mono h1 h2, h6⟩
theorem PaD.start {ys : List Value} (h : Ob w lo hi eD 1 (.slice D n c) n ys) : PaD w lo hi eD eC D n c [] := ⟨⟨ys, h, by simp [heads]⟩, by simp, List.Pairwise.nil⟩
theorem PaD.full (h : PaD w lo hi eD eC D n c gs) (hn : gs.length = n) : ObD w lo hi eD eC D c gs := by
  obtain ⟨⟨ys, h1, h2⟩, h3, h4⟩ := h
  subst hn
  have hl := h1.1.1
  rw [List.take_of_length_le (by omega)] at h2
  subst h2
  exact ⟨h1, h3, h4⟩
theorem PaD.cell {g : Nat} (h : PaD w lo hi eD eC (some ⟨g, 0, none⟩) n c gs) {k : Nat} (hk : k < n) : (∃ v, w.cell? ⟨g, k, none⟩ = some v) ∧ w.frozen? ⟨g, k, none⟩ = false ∧ lo ≤ g ∧ g < hi := by
  obtain ⟨⟨ys, h1, h2⟩, h3, h4⟩ := h
  have hl := h1.1.1
  refine ⟨⟨ys[k]'(by omega), ?_⟩, ?_, (ob_form h1 rfl).2⟩
  · have := h1.1.cells (g := g) rfl k _ (List.getElem?_eq_getElem (by omega))
    rwa [Addr.add_lit, Nat.zero_add] at this
  · rcases h1.1.2 with ⟨hv, _⟩ | ⟨g', cap, cur, hv, hb, hg, _⟩
    · cases hv
    · injection hv with hv
      injection hv with hv
      injection hv with hv
      subst hv
      simp [World.frozen?, hg]
theorem PaD.step {g : Nat} (h : PaD w lo hi eD eC (some ⟨g, 0, none⟩) n c gs) (hne : eC ≠ eD) (hlt : gs.length < n) {B : Option Addr} {d : Nat} {xs : List Int} {l1 h1 : Nat} (hc : Ob w l1 h1 eC 1 (.slice B xs.length d) xs.length (ints xs)) (hl : hi ≤ l1) (hll : lo ≤ l1) (hh1 : h1 ≤ w.heap.size) (hhi : hi ≤ w.heap.size) :
    PaD (w.setCell ⟨g, gs.length, none⟩ (.slice B xs.length d)) lo w.heap.size eD eC (some ⟨g, 0, none⟩) n c (gs ++ [⟨B, d, xs⟩]) := by
  obtain ⟨⟨ys, h2, h3⟩, h4, h5⟩ := h
  have hst : (w.setCell ⟨g, gs.length, none⟩ (.slice B xs.length d)).ownsRow lo eD 1 (.slice (some ⟨g, 0, none⟩) n c) n (ys.set gs.length (.slice B xs.length d)) ∧ w.grownBy (w.setCell ⟨g, gs.length, none⟩ (.slice B xs.length d)) (some g) := by
    have hcap : n = n := rfl
    exact (h2.1).stored gs.length (.slice B xs.length d)
  have hyl := h2.1.1
  refine ⟨⟨_, ⟨hst.1, fun k hk => Nat.lt_of_lt_of_le (h2.2 k hk) hhi⟩, ?_⟩, ?_, ?_⟩
  · rw [List.length_append, List.length_singleton, take_set _ _ _ (by omega), h3, heads_append]
    rfl
  · intro y hy
    rcases List.mem_append.1 hy with hy | hy
    · exact ((h4 y hy).kept hst.2 (own_ne (h4 y hy).1 h2.1 hne)).mono (Nat.le_refl _) hhi
    · rw [List.mem_singleton] at hy
      subst hy
      exact (hc.kept hst.2 (own_ne hc.1 h2.1 hne)).mono hll hh1
  · refine List.pairwise_append.2 ⟨h5, List.pairwise_singleton _ _, ?_⟩
    intro x hx y hy q e1 e2
    rw [List.mem_singleton] at hy
    subst hy
    have h6 := ob_form (h4 x hx) e1
    have h7 := ob_form hc e2
    simp only at h6 h7
    omega
end
theorem Chg.rdD {lo hi B : Nat} {w w' : World} {D : Option Addr} {hs : List Hd} (c : Chg lo hi w w') (h : RdD w B D hs) (hB : B ≤ lo) (hs' : B ≤ w.heap.size) : RdD w' B D hs :=
  h.keep fun b o hb => World.cell?_of_block (c.block b (by omega) (.inl (by omega)))
end Go.Proofs.YtkmejkeanmjfbaaGreatDoor

/-! ### Words on lists of decks in memory: a row of headers of decks, each a row of headers of cards. -/
namespace Go.Proofs.YtkmejkeanmjfbaaGreatDoor
open Go.RowKit

/-- A deck in memory: where its headers lie, its capacity, its cards, and the blocks among which it lies. -/
structure Dk where
  a : Option Addr
  c : Nat
  hs : List Hd
  lo : Nat
  hi : Nat
def Dk.cell (d : Dk) : Value := .slice d.a d.hs.length d.c
def dheads (ds : List Dk) : List Value := ds.map Dk.cell
def decks (ds : List Dk) : List (List (List Int)) := ds.map fun d => cards d.hs
theorem dheads_length (ds : List Dk) : (dheads ds).length = ds.length := by simp [dheads]
theorem decks_length (ds : List Dk) : (decks ds).length = ds.length := by simp [decks]
theorem dheads_get (ds : List Dk) (k : Nat) (h : k < ds.length) : (dheads ds)[k]? = some (.slice ds[k].a ds[k].hs.length ds[k].c) := by simp [dheads, h, Dk.cell]
theorem dheads_one (ds : List Dk) : ∀ u ∈ dheads ds, u.oneCell' = true := by
  intro u hu
  simp only [dheads, List.mem_map] at hu
  obtain ⟨h, _, rfl⟩ := hu
  rfl
theorem dheads_append (ds es : List Dk) : dheads (ds ++ es) = dheads ds ++ dheads es := by simp [dheads]
theorem decks_append (ds es : List Dk) : decks (ds ++ es) = decks ds ++ decks es := by simp [decks]
theorem decks_take (ds : List Dk) (k : Nat) : decks (ds.take k) = (decks ds).take k := by simp [decks]
theorem decks_at (ds : List Dk) (k : Nat) (h : k < (decks ds).length) : (decks ds)[k] = cards (ds[k]'(by simpa [decks] using h)).hs := by simp [decks]
theorem decks_snoc (ds : List Dk) (k : Nat) (h : k < ds.length) : decks (ds.take (k + 1)) = decks (ds.take k) ++ [cards ds[k].hs] := by
  rw [List.take_succ_eq_append_getElem h, decks_append]
  rfl
theorem decks_same {ds es : List Dk} (h : decks ds = decks es) : ds.length = es.length ∧ ∀ k (h1 : k < ds.length) (h2 : k < es.length), cards ds[k].hs = cards es[k].hs := by
  have hl : ds.length = es.length := by rw [← decks_length ds, h, decks_length]
  refine ⟨hl, fun k h1 h2 => ?_⟩
  have := congrArg (fun l => l[k]?) h
  simpa [decks, h1, h2] using this
/-- How many cards and columns all decks have. -/
def dtot (ds : List Dk) : Nat := (ds.map fun d => d.hs.length + tot d.hs).sum
def dcol (ds : List Dk) : Nat := (ds.map fun d => tot d.hs).sum
theorem dtot_append (ds es : List Dk) : dtot (ds ++ es) = dtot ds + dtot es := by simp [dtot]
theorem dcol_append (ds es : List Dk) : dcol (ds ++ es) = dcol ds + dcol es := by simp [dcol]
theorem dtot_take_succ (ds : List Dk) (k : Nat) (h : k < ds.length) : dtot (ds.take (k + 1)) = dtot (ds.take k) + (ds[k].hs.length + tot ds[k].hs) := by
  rw [List.take_succ_eq_append_getElem h, dtot_append]
  simp [dtot]
theorem dcol_take_succ (ds : List Dk) (k : Nat) (h : k < ds.length) : dcol (ds.take (k + 1)) = dcol (ds.take k) + tot ds[k].hs := by
  rw [List.take_succ_eq_append_getElem h, dcol_append]
  simp [dcol]
theorem dtot_take_le (ds : List Dk) (k : Nat) : dtot (ds.take k) ≤ dtot ds := by
  have := dtot_append (ds.take k) (ds.drop k)
  rw [List.take_append_drop] at this
  omega
theorem dcol_take_le (ds : List Dk) (k : Nat) : dcol (ds.take k) ≤ dcol ds := by
  have := dcol_append (ds.take k) (ds.drop k)
  rw [List.take_append_drop] at this
  omega
theorem dcol_le (ds : List Dk) : dcol ds ≤ dtot ds := by
  induction ds with
  | nil => simp [dcol, dtot]
  | cons d ds ih => simp only [dcol, dtot, List.map_cons, List.sum_cons] at *; omega
theorem dtot_at (ds : List Dk) (k : Nat) (h : k < ds.length) : ds[k].hs.length + tot ds[k].hs ≤ dtot ds := by
  have h1 := dtot_take_succ ds k h
  have h2 := dtot_take_le ds (k + 1)
  omega
theorem dtot_decks {ds es : List Dk} (h : decks ds = decks es) : dtot ds = dtot es := by
  have e : ∀ l : List Dk, dtot l = ((decks l).map fun L => L.length + (L.map List.length).sum).sum := fun l => by
    simp only [dtot, decks, List.map_map]
    congr 1
    apply List.map_congr_left
    intro d _
    simp [tot, cards, Function.comp_def]
  rw [e, e, h]

/-- Decks that are read. -/
structure RdDD (w : World) (B : Nat) (D : Option Addr) (ds : List Dk) : Prop where
  row : Rd w B 1 D ds.length (dheads ds)
  deck : ∀ d ∈ ds, RdD w B d.a d.hs
  cap : ∀ d ∈ ds, d.hs.length ≤ d.c
section
variable {w w' : World} {B B' : Nat} {D : Option Addr} {ds : List Dk}
theorem RdDD.keep (h : RdDD w B D ds) (hk : ∀ b o, b < B → w'.cell? ⟨b, o, none⟩ = w.cell? ⟨b, o, none⟩) : RdDD w' B D ds := ⟨h.row.keep hk, fun x hx => (h.deck x hx).keep hk, h.cap⟩
theorem RdDD.more (h : RdDD w B D ds) (hB : B ≤ B') : RdDD w B' D ds := ⟨h.row.more hB, fun x hx => (h.deck x hx).more hB, h.cap⟩
theorem RdDD.below (h : RdDD w B D ds) (hb : Below B w w') : RdDD w' B D ds := ⟨h.row.below hb, fun x hx => (h.deck x hx).below hb, h.cap⟩
theorem RdDD.bs (h : RdDD w B D ds) (hB : B ≤ w.heap.size) (hb : Below w.heap.size w w') : RdDD w' B D ds := h.below (hb.mono hB)
theorem RdDD.drew (h : RdDD w B D ds) : RdDD w.drew B D ds := ⟨h.row, fun x hx => (h.deck x hx).drew, h.cap⟩
theorem RdDD.alloc (h : RdDD w B D ds) (hB : B ≤ w.heap.size) (o : Obj) : RdDD (w.alloc o) B D ds := ⟨h.row.alloc hB o, fun x hx => (h.deck x hx).alloc hB o, h.cap⟩
theorem RdDD.up (h : RdDD w w.heap.size D ds) (hb : Below w.heap.size w w') : RdDD w' w'.heap.size D ds := ⟨h.row.up hb, fun x hx => (h.deck x hx).up hb, h.cap⟩
theorem RdDD.a1 (h : RdDD w w.heap.size D ds) (o : Obj) : RdDD (w.alloc o) (w.alloc o).heap.size D ds := ⟨h.row.a1 o, fun x hx => (h.deck x hx).a1 o, h.cap⟩
theorem RdDD.nil (w : World) (B : Nat) (D : Option Addr) : RdDD w B D [] := ⟨Rd.nil _ _ _ _, by simp, by simp⟩
theorem RdDD.at_ (h : RdDD w B D ds) {k : Nat} (hk : k < ds.length) : ∃ b off, D = some ⟨b, off, none⟩ ∧ b < B ∧ ∀ j (hj : j < ds.length), w.cell? ⟨b, off + j, none⟩ = some (.slice ds[j].a ds[j].hs.length ds[j].c) := by
  obtain ⟨b, off, hD, hb, hc⟩ := h.row.at_ hk
  exact ⟨b, off, hD, hb, fun j hj => hc _ _ (dheads_get ds j hj)⟩
theorem RdDD.deck_at (h : RdDD w B D ds) {k : Nat} (hk : k < ds.length) : RdD w B ds[k].a ds[k].hs := h.deck _ (List.getElem_mem hk)
theorem RdDD.cap_at (h : RdDD w B D ds) {k : Nat} (hk : k < ds.length) : ds[k].hs.length ≤ ds[k].c := h.cap _ (List.getElem_mem hk)
theorem Chg.rdDD {lo hi : Nat} (c : Chg lo hi w w') (h : RdDD w B D ds) (hB : B ≤ lo) (hs' : B ≤ w.heap.size) : RdDD w' B D ds :=
  h.keep fun b o hb => World.cell?_of_block (c.block b (by omega) (.inl (by omega)))
end

/-- Decks of the call's own: the row of headers, and each deck among blocks of its own. -/
structure ObDD (w : World) (lo hi : Nat) (eE eD eC : TypeId) (D : Option Addr) (c : Nat) (ds : List Dk) : Prop where
  row : Ob w lo hi eE 1 (.slice D ds.length c) ds.length (dheads ds)
  deck : ∀ d ∈ ds, ObD w d.lo d.hi eD eC d.a d.c d.hs ∧ lo ≤ d.lo ∧ d.hi ≤ hi
  apart : ds.Pairwise fun x y => x.hi ≤ y.lo
  far : ∀ d ∈ ds, ∀ k, (Value.slice D ds.length c).ownBlock = some k → k < d.lo ∨ d.hi ≤ k
section
variable {w w' : World} {lo hi lo' hi' : Nat} {eE eD eC : TypeId} {D : Option Addr} {c : Nat} {ds : List Dk}
theorem ObDD.rd (h : ObDD w lo hi eE eD eC D c ds) : RdDD w w.heap.size D ds := ⟨h.row.rd, fun x hx => (h.deck x hx).1.rd, fun x hx => (h.deck x hx).1.cap.1⟩
theorem ObDD.mono (h : ObDD w lo hi eE eD eC D c ds) (h1 : lo' ≤ lo) (h2 : hi ≤ hi') : ObDD w lo' hi' eE eD eC D c ds :=
  ⟨h.row.mono h1 h2, fun x hx => ⟨(h.deck x hx).1, Nat.le_trans h1 (h.deck x hx).2.1, Nat.le_trans (h.deck x hx).2.2 h2⟩, h.apart, h.far⟩
theorem ObDD.bs (h : ObDD w lo hi eE eD eC D c ds) (hb : Below w.heap.size w w') : ObDD w' lo hi eE eD eC D c ds := ⟨h.row.bs hb, fun x hx => ⟨(h.deck x hx).1.bs hb, (h.deck x hx).2⟩, h.apart, h.far⟩
theorem ObDD.chg {l r : Nat} (h : ObDD w lo hi eE eD eC D c ds) (k : Chg l r w w') (ho : hi ≤ l ∨ r ≤ lo) : ObDD w' lo hi eE eD eC D c ds :=
  ⟨h.row.chg k ho, fun x hx => by
    have h1 := h.deck x hx
    exact ⟨h1.1.chg k (by omega), h1.2⟩, h.apart, h.far⟩
theorem ObDD.alloc (h : ObDD w lo hi eE eD eC D c ds) (o : Obj) : ObDD (w.alloc o) lo hi eE eD eC D c ds := h.bs (ba (b0 _) _)
theorem ObDD.cap (h : ObDD w lo hi eE eD eC D c ds) : ds.length ≤ c ∧ c ≤ maxLen := own_cap h.row.1
theorem ObDD.empty (h : Ob w lo hi eE 1 (.slice D 0 c) 0 []) : ObDD w lo hi eE eD eC D c [] := ⟨h, by simp, List.Pairwise.nil, by simp⟩
theorem ObD.kept {row : Option Nat} {hs : List Hd} (h : ObD w lo hi eD eC D c hs) (hg : w.grownBy w' row) (h1 : ∀ k, row = some k → k < lo ∨ hi ≤ k) : ObD w' lo hi eD eC D c hs := by
  have key : ∀ {e : TypeId} {size : Nat} {v : Value} {n : Nat} {xs : List Value}, Ob w lo hi e size v n xs → Ob w' lo hi e size v n xs := by
    intro e size v n xs ho
    refine ho.kept hg ?_
    cases hv : v.ownBlock with
    | none => exact .inl rfl
    | some k =>
      right
      intro he
      have h2 := ho.1.lt k hv
      have h3 := ho.2 k hv
      have h4 := h1 k he.symm
      omega
  exact ⟨key h.row, fun x hx => key (h.card x hx), h.apart⟩
/-- One deck more, laid above all that was there; the row of headers is written by 'append'. -/
theorem ObDD.snoc (h : ObDD w lo hi eE eD eC D c ds) {A : Option Addr} {d l1 h1 : Nat} {hs : List Hd} (hc : ObD w l1 h1 eD eC A d hs) (hl : hi ≤ l1) (hll : lo ≤ l1) {D' : Option Addr} {c' : Nat}
    (hrow : w'.ownsRow lo eE 1 (.slice D' (ds.length + 1) c') (ds.length + 1) (dheads ds ++ [.slice A hs.length d])) (hg : w.grownBy w' (Value.slice D ds.length c).ownBlock) (hhi : hi ≤ w.heap.size) (hh1 : h1 ≤ w.heap.size)
    (hD : D' = D ∨ ∀ k, (Value.slice D' (ds.length + 1) c').ownBlock = some k → w.heap.size ≤ k) (_hne : eE ≠ eD) (_hne' : eE ≠ eC) : ObDD w' lo w'.heap.size eE eD eC D' c' (ds ++ [⟨A, d, hs, l1, h1⟩]) := by
  have hz := hg.size
  have hrb : ∀ k, (Value.slice D ds.length c).ownBlock = some k → k < hi := h.row.2
  have hfar : ∀ k, (Value.slice D' (ds.length + 1) c').ownBlock = some k → (Value.slice D ds.length c).ownBlock = some k ∨ w.heap.size ≤ k := by
    intro k hk
    rcases hD with rfl | hD
    · left
      rw [← hk]
      cases D' <;> rfl
    · exact .inr (hD k hk)
  refine ⟨?_, ?_, ?_, ?_⟩
  · rw [dheads_append, List.length_append]
    exact Ob.of hrow
  · intro y hy
    rcases List.mem_append.1 hy with hy | hy
    · have h2 := h.deck y hy
      exact ⟨h2.1.kept hg (fun k hk => h.far y hy k hk), h2.2.1, by omega⟩
    · rw [List.mem_singleton] at hy
      subst hy
      exact ⟨hc.kept hg (fun k hk => .inl (by have := hrb k hk; omega)), hll, by simp only; omega⟩
  · refine List.pairwise_append.2 ⟨h.apart, List.pairwise_singleton _ _, ?_⟩
    intro x hx y hy
    rw [List.mem_singleton] at hy
    subst hy
    have := (h.deck x hx).2.2
    simp only
    omega
  · intro y hy k hk
    rw [List.length_append, List.length_singleton] at hk
    rcases List.mem_append.1 hy with hy | hy
    · rcases hfar k hk with h2 | h2
      · exact h.far y hy k h2
      · have := (h.deck y hy).2.2
        omega
    · rw [List.mem_singleton] at hy
      subst hy
      rcases hfar k hk with h2 | h2
      · have := hrb k h2
        left
        simp only
        omega
      · right
        simp only
        omega
end

/-- Marks on decks. -/
def markDD (k : Int) : List Dk → List Dk
  | [] => []
  | d :: ds => ⟨d.a, d.c, markD k d.hs, d.lo, d.hi⟩ :: markDD (k + (tot d.hs : Int)) ds
theorem markDD_length (k : Int) (ds : List Dk) : (markDD k ds).length = ds.length := by
  induction ds generalizing k with
  | nil => rfl
  | cons d ds ih => simp [markDD, ih]
theorem markDD_append (k : Int) (ds es : List Dk) : markDD k (ds ++ es) = markDD k ds ++ markDD (k + (dcol ds : Int)) es := by
  induction ds generalizing k with
  | nil => simp [markDD, dcol]
  | cons d ds ih =>
    simp only [List.cons_append, markDD, ih, dcol, List.map_cons, List.sum_cons]
    rw [show k + (tot d.hs : Int) + ((ds.map fun d => tot d.hs).sum : Int) = k + ((tot d.hs + (ds.map fun d => tot d.hs).sum : Nat) : Int) by omega]
theorem markDD_get (k : Int) (ds : List Dk) (j : Nat) (hj : j < ds.length) : (markDD k ds)[j]'(by rw [markDD_length]; exact hj) = ⟨ds[j].a, ds[j].c, markD (k + (dcol (ds.take j) : Int)) ds[j].hs, ds[j].lo, ds[j].hi⟩ := by
  induction ds generalizing k j with
  | nil => simp at hj
  | cons d ds ih =>
    cases j with
    | zero => simp [markDD, dcol]
    | succ j =>
      simp only [markDD, List.getElem_cons_succ, List.take_succ_cons]
      rw [ih]
      simp only [dcol, List.map_cons, List.sum_cons]
      rw [show k + (tot d.hs : Int) + (((ds.take j).map fun d => tot d.hs).sum : Int) = k + ((tot d.hs + ((ds.take j).map fun d => tot d.hs).sum : Nat) : Int) by omega]
def markToD (k : Int) (j : Nat) (ds : List Dk) : List Dk := markDD k (ds.take j) ++ ds.drop j
theorem markToD_zero (k : Int) (ds : List Dk) : markToD k 0 ds = ds := by simp [markToD, markDD]
theorem markToD_all (k : Int) (ds : List Dk) : markToD k ds.length ds = markDD k ds := by simp [markToD]
theorem markToD_length (k : Int) (j : Nat) (ds : List Dk) : (markToD k j ds).length = ds.length := by
  simp only [markToD, List.length_append, markDD_length, List.length_take, List.length_drop]
  omega
theorem markToD_at (k : Int) (j : Nat) (ds : List Dk) (hj : j < ds.length) : (markToD k j ds)[j]'(by rw [markToD_length]; exact hj) = ds[j] := by
  unfold markToD
  rw [List.getElem_append_right (by rw [markDD_length, List.length_take]; omega)]
  simp only [markDD_length, List.length_take, Nat.min_eq_left (Nat.le_of_lt hj), Nat.sub_self, List.getElem_drop, Nat.add_zero]
theorem markToD_succ (k : Int) (j : Nat) (ds : List Dk) (hj : j < ds.length) : (markToD k j ds).set j ⟨ds[j].a, ds[j].c, markD (k + (dcol (ds.take j) : Int)) ds[j].hs, ds[j].lo, ds[j].hi⟩ = markToD k (j + 1) ds := by
  unfold markToD
  rw [List.set_append_right _ _ (by rw [markDD_length, List.length_take]; omega), List.take_succ_eq_append_getElem hj, markDD_append, List.append_assoc]
  congr 1
  simp only [markDD_length, List.length_take, Nat.min_eq_left (Nat.le_of_lt hj), Nat.sub_self]
  rw [List.drop_eq_getElem_cons hj, List.set_cons_zero]
  rfl
/-- A deck of the list is written anew. -/
theorem ObDD.mark {w w' : World} {lo hi : Nat} {eE eD eC : TypeId} {D : Option Addr} {c : Nat} {ds : List Dk} (h : ObDD w lo hi eE eD eC D c ds) {j : Nat} (hj : j < ds.length) {gs : List Hd} (hl : gs.length = ds[j].hs.length)
    (ho : ObD w' ds[j].lo ds[j].hi eD eC ds[j].a ds[j].c gs) (hg : Chg ds[j].lo ds[j].hi w w') : ObDD w' lo hi eE eD eC D c (ds.set j ⟨ds[j].a, ds[j].c, gs, ds[j].lo, ds[j].hi⟩) := by
  have hheads : dheads (ds.set j ⟨ds[j].a, ds[j].c, gs, ds[j].lo, ds[j].hi⟩) = dheads ds := by
    apply List.ext_getElem?
    intro k
    by_cases hk : k < ds.length
    · rw [dheads_get _ _ (by simpa using hk), dheads_get _ _ hk]
      by_cases e : j = k
      · subst e
        simp [hl]
      · simp [e]
    · rw [List.getElem?_eq_none (by rw [dheads_length, List.length_set]; omega), List.getElem?_eq_none (by rw [dheads_length]; omega)]
  have hlohi : ∀ k (hk : k < ds.length), ((ds.set j ⟨ds[j].a, ds[j].c, gs, ds[j].lo, ds[j].hi⟩)[k]'(by simpa using hk)).lo = ds[k].lo ∧ ((ds.set j ⟨ds[j].a, ds[j].c, gs, ds[j].lo, ds[j].hi⟩)[k]'(by simpa using hk)).hi = ds[k].hi := by
    intro k hk
    by_cases e : j = k
    · subst e
      simp
    · simp [e]
  refine ⟨?_, ?_, ?_, ?_⟩
  · rw [hheads, List.length_set]
    have hr := h.row
    have hf := h.far _ (List.getElem_mem hj)
    refine ⟨?_, hr.2⟩
    rcases hr.1.2 with hn | ⟨g, cap, cur, hv, hg', hgg, rest⟩
    · exact ⟨hr.1.1, .inl hn⟩
    · refine ⟨hr.1.1, .inr ⟨g, cap, cur, hv, hg', ?_, rest⟩⟩
      rw [hg.block g (Array.getElem?_eq_some_iff.1 hgg).1 (hf g (by rw [hv]; rfl))]
      exact hgg
  · intro y hy
    obtain ⟨k, hk, rfl⟩ := List.mem_iff_getElem.1 hy
    simp only [List.length_set] at hk
    have hdk := h.deck _ (List.getElem_mem hk)
    have hdj := h.deck _ (List.getElem_mem hj)
    by_cases e : j = k
    · subst e
      simp only [List.getElem_set_self]
      exact ⟨ho, hdk.2⟩
    · simp only [List.getElem_set_ne e]
      refine ⟨hdk.1.chg hg ?_, hdk.2⟩
      rcases Nat.lt_or_gt_of_ne e with hlt | hlt
      · exact .inr (List.pairwise_iff_getElem.1 h.apart j k hj hk hlt)
      · exact .inl (List.pairwise_iff_getElem.1 h.apart k j hk hj hlt)
  · refine List.pairwise_iff_getElem.2 ?_
    intro p q hp hq hpq
    simp only [List.length_set] at hp hq
    rw [(hlohi p hp).2, (hlohi q hq).1]
    exact List.pairwise_iff_getElem.1 h.apart p q hp hq hpq
  · intro y hy k hk
    obtain ⟨p, hp, rfl⟩ := List.mem_iff_getElem.1 hy
    simp only [List.length_set] at hp hk
    rw [(hlohi p hp).1, (hlohi p hp).2]
    exact h.far _ (List.getElem_mem hp) k hk
end Go.Proofs.YtkmejkeanmjfbaaGreatDoor
