/- The least of the lists of places that are good: two ways of finding it. No walk here. find of the reference: the first list of places that sorts the deck. FewestPasses in the reference. Passes that part nothing may be left out; the least plan has none that may. No walk here. -/
import Derived.Test.YtmfoaggohlfflaaGreatDoorSortKey
import Derived.Test.YtmfoaggohlfflaaGreatDoorPlanForAll
import Derived.Test.YtmfoaggohlfflaaGreatDoorPlan
import Derived.Deep.RegionLaw
import Derived.OneCell
import Derived.Test.YtmfoaggohlfflaaGreatDoorFullSorts
import Derived.Deep.DeepCutAuto
import Derived.Deep.RegionHeld3
/-! ### The least of the lists of places that are good: two ways of finding it. No walk here. -/
namespace Go.Proofs.YtmfoaggohlfflaaGreatDoor
open Go.RowKit

/-! ### the least of the lists of places that are good -/
def zs (c : List Nat) : List Int := c.map fun (k : Nat) => (k : Int)
def nk (c : List Nat) : Int := numK (zs c)
theorem zs_length (c : List Nat) : (zs c).length = c.length := by simp [zs]
theorem zs_inj {c d : List Nat} (h : zs c = zs d) : c = d := by
  unfold zs at h
  have := List.map_inj_right (f := fun (k : Nat) => (k : Int)) (fun a b e => by omega) (l := c) (l' := d)
  exact this.1 h
theorem zs_range {c : List Nat} (h : ∀ x ∈ c, x < 40) : ∀ x ∈ zs c, -1 ≤ x ∧ x ≤ 39 := by
  intro x hx
  obtain ⟨k, hk, rfl⟩ := List.mem_map.1 hx
  have := h k hk
  omega
theorem nk_inj {c d : List Nat} (hl : c.length = d.length) (hc : ∀ x ∈ c, x < 40) (hd : ∀ x ∈ d, x < 40) (h : nk c = nk d) : c = d := by
  have h1 := (cmpN_num (zs c) (zs d) (by rw [zs_length, zs_length, hl]) (zs_range hc) (zs_range hd)).2.2 h
  exact zs_inj ((cmpN_zero (by rw [zs_length, zs_length, hl])).1 h1)
theorem nk_cons_lt {i j : Nat} {c d : List Nat} (hl : c.length = d.length) (hc : ∀ x ∈ c, x < 40) (hd : ∀ x ∈ d, x < 40) (hi : i < j) (hj : j < 40) : nk (i :: c) < nk (j :: d) := by
  refine (cmpN_num (zs (i :: c)) (zs (j :: d)) (by simp [zs, hl]) (zs_range ?_) (zs_range ?_)).1.1 ?_
  · intro x hx
    rcases List.mem_cons.1 hx with rfl | hx
    · omega
    · exact hc x hx
  · intro x hx
    rcases List.mem_cons.1 hx with rfl | hx
    · omega
    · exact hd x hx
  · simp only [zs, List.map_cons, cmpN]
    rw [if_pos (by omega)]
    decide
theorem nk_cons_eq {i : Nat} {c d : List Nat} (hl : c.length = d.length) (h : nk c < nk d) : nk (i :: c) < nk (i :: d) := by
  unfold nk zs at h ⊢
  simp only [List.map_cons, numK, List.length_map, hl]
  omega
/-- The lists of m rising places from f to n - 1. -/
def combs (n : Nat) : Nat → Nat → List (List Nat)
  | 0, _ => [[]]
  | m + 1, f => (List.range' f (n - f)).flatMap fun i => (combs n m (i + 1)).map (i :: ·)
def Asc (n f : Nat) (c : List Nat) : Prop := c.Pairwise (· < ·) ∧ ∀ x ∈ c, f ≤ x ∧ x < n
theorem combs_mem {n : Nat} : ∀ {m f : Nat} {c : List Nat}, c ∈ combs n m f ↔ c.length = m ∧ Asc n f c
  | 0, f, c => by
    simp only [combs, List.mem_singleton, Asc]
    constructor
    · rintro rfl; simp
    · intro h; exact List.eq_nil_of_length_eq_zero h.1
  | m + 1, f, c => by
    simp only [combs, List.mem_flatMap, List.mem_map, List.mem_range'_1]
    constructor
    · rintro ⟨i, hi, d, hd, rfl⟩
      obtain ⟨h1, h2, h3⟩ := combs_mem.1 hd
      refine ⟨by simp [h1], List.pairwise_cons.2 ⟨fun x hx => by have := h3 x hx; omega, h2⟩, fun x hx => ?_⟩
      rcases List.mem_cons.1 hx with rfl | hx
      · omega
      · have := h3 x hx; omega
    · rintro ⟨h1, h2, h3⟩
      cases c with
      | nil => simp at h1
      | cons i d =>
        obtain ⟨h4, h5⟩ := List.pairwise_cons.1 h2
        have hi := h3 i (List.mem_cons_self ..)
        refine ⟨i, by omega, d, combs_mem.2 ⟨by simpa using h1, h5, fun x hx => ?_⟩, rfl⟩
        have a1 := h4 x hx
        have a2 := h3 x (List.mem_cons_of_mem _ hx)
        omega
theorem combs_sorted {n : Nat} (hn : n ≤ 40) : ∀ (m f : Nat), (combs n m f).Pairwise fun c d => nk c < nk d
  | 0, f => by simp [combs]
  | m + 1, f => by
    simp only [combs]
    rw [List.pairwise_flatMap]
    constructor
    · intro i _
      rw [List.pairwise_map]
      refine List.Pairwise.imp_of_mem ?_ (combs_sorted hn m (i + 1))
      intro c d hc hd h
      exact nk_cons_eq (by rw [(combs_mem.1 hc).1, (combs_mem.1 hd).1]) h
    · refine List.Pairwise.imp_of_mem ?_ (List.pairwise_lt_range' (s := f) (n := n - f))
      intro i j hi hj hij x hx y hy
      obtain ⟨c, hc, rfl⟩ := List.mem_map.1 hx
      obtain ⟨d, hd, rfl⟩ := List.mem_map.1 hy
      rw [List.mem_range'_1] at hj
      have c1 := combs_mem.1 hc
      have d1 := combs_mem.1 hd
      exact nk_cons_lt (by rw [c1.1, d1.1]) (fun x hx => by have := c1.2.2 x hx; omega) (fun x hx => by have := d1.2.2 x hx; omega) hij (by omega)
theorem combs_none {n m f : Nat} (h : n < f + (m + 1)) : combs n (m + 1) f = [] := by
  refine List.eq_nil_iff_forall_not_mem.2 fun c hc => ?_
  obtain ⟨h1, h2, h3⟩ := combs_mem.1 hc
  -- a rising list of m + 1 places from f on ends at f + m or later
  have key : ∀ (l : List Nat) (f : Nat), l.Pairwise (· < ·) → (∀ x ∈ l, f ≤ x ∧ x < n) → l ≠ [] → f + l.length ≤ n := by
    intro l
    induction l with
    | nil => intro f _ _ h; exact absurd rfl h
    | cons i l ih =>
      intro f hp hb _
      obtain ⟨a1, a2⟩ := List.pairwise_cons.1 hp
      have hi := hb i (List.mem_cons_self ..)
      by_cases e : l = []
      · subst e; simp; omega
      · have := ih (i + 1) a2 (fun x hx => by have b1 := a1 x hx; have b2 := hb x (List.mem_cons_of_mem _ hx); omega) e
        simp only [List.length_cons]
        omega
  have := key c f h2 h3 (by intro e; subst e; simp at h1)
  omega
/-- a is not behind b. -/
def Bt (a b : List Nat) : Prop := a.length < b.length ∨ (a.length = b.length ∧ nk a ≤ nk b)
theorem Bt.trans {a b c : List Nat} (h : Bt a b) (k : Bt b c) : Bt a c := by unfold Bt at *; omega
theorem Bt.anti {n : Nat} (hn : n ≤ 40) {a b : List Nat} (ha : Asc n 0 a) (hb : Asc n 0 b) (h : Bt a b) (k : Bt b a) : a = b := by
  unfold Bt at h k
  exact nk_inj (by omega) (fun x hx => by have := ha.2 x hx; omega) (fun x hx => by have := hb.2 x hx; omega) (by omega)
/-- The good one that comes first. -/
structure Least (n : Nat) (good : List Nat → Bool) (c : List Nat) : Prop where
  ok : good c = true
  asc : Asc n 0 c
  least : ∀ d, Asc n 0 d → good d = true → Bt c d
theorem Least.unique {n : Nat} (hn : n ≤ 40) {good : List Nat → Bool} {c d : List Nat} (h : Least n good c) (k : Least n good d) : c = d :=
  Bt.anti hn h.asc k.asc (h.least d k.asc k.ok) (k.least c h.asc h.ok)
/-- The places of the bits of a number. -/
def bitsOf (n s : Nat) : List Nat := (List.range n).filter fun i => s / 2 ^ i % 2 == 1
theorem bitsOf_succ (n s : Nat) : bitsOf (n + 1) s = bitsOf n s ++ if s / 2 ^ n % 2 = 1 then [n] else [] := by
  unfold bitsOf
  rw [List.range_succ, List.filter_append]
  congr 1
  by_cases h : s / 2 ^ n % 2 = 1 <;> simp [h]
theorem bitsOf_asc (n s : Nat) : Asc n 0 (bitsOf n s) := by
  unfold bitsOf
  refine ⟨List.pairwise_lt_range.sublist List.filter_sublist, fun x hx => ⟨Nat.zero_le _, List.mem_range.1 (List.mem_filter.1 hx).1⟩⟩
theorem bitsOf_add (n : Nat) : ∀ m s, m ≤ n → bitsOf m (s + 2 ^ n) = bitsOf m s
  | 0, _, _ => rfl
  | m + 1, s, h => by
    rw [bitsOf_succ, bitsOf_succ, bitsOf_add n m s (by omega)]
    have e : (s + 2 ^ n) / 2 ^ m % 2 = s / 2 ^ m % 2 := by
      have h2 : 2 ^ n = 2 ^ m * (2 * 2 ^ (n - m - 1)) := by
        rw [← Nat.pow_succ', ← Nat.pow_add]
        congr 1
        omega
      rw [h2, Nat.add_mul_div_left _ _ (Nat.two_pow_pos m), Nat.add_mul_mod_self_left]
    rw [e]
theorem bitsOf_hit : ∀ (n : Nat) (c : List Nat), Asc n 0 c → ∃ s, s < 2 ^ n ∧ bitsOf n s = c
  | 0, c, h => by
    refine ⟨0, by simp, ?_⟩
    cases c with
    | nil => rfl
    | cons x c => have := h.2 x (List.mem_cons_self ..); omega
  | n + 1, c, h => by
    by_cases hl : n ∈ c
    · have hc : c = c.dropLast ++ [n] := by
        have hne : c ≠ [] := by intro e; subst e; simp at hl
        have h1 := List.dropLast_concat_getLast hne
        have h2 : c.getLast hne = n := by
          obtain ⟨k, hk, e⟩ := List.mem_iff_getElem.1 hl
          rw [List.getLast_eq_getElem]
          by_cases hk2 : k = c.length - 1
          · subst hk2; exact e
          · have a1 := List.pairwise_iff_getElem.1 h.1 k (c.length - 1) hk (by omega) (by omega)
            have a2 := h.2 _ (List.getElem_mem (show c.length - 1 < c.length by omega))
            omega
        rw [h2] at h1
        exact h1.symm
      have ha : Asc n 0 c.dropLast := by
        refine ⟨h.1.sublist (List.dropLast_sublist _), fun x hx => ?_⟩
        have h3 := h.1
        rw [hc, List.pairwise_append] at h3
        exact ⟨Nat.zero_le _, h3.2.2 x hx n (by simp)⟩
      obtain ⟨s, hs, e⟩ := bitsOf_hit n _ ha
      refine ⟨s + 2 ^ n, by rw [Nat.pow_succ]; omega, ?_⟩
      rw [bitsOf_succ, bitsOf_add n n s (Nat.le_refl _), e]
      have : (s + 2 ^ n) / 2 ^ n % 2 = 1 := by
        rw [Nat.add_div_right _ (Nat.two_pow_pos n), Nat.div_eq_of_lt hs]
      rw [if_pos this]
      exact hc.symm
    · have ha : Asc n 0 c := ⟨h.1, fun x hx => by
        have := h.2 x hx
        have hne : x ≠ n := fun e => hl (e ▸ hx)
        omega⟩
      obtain ⟨s, hs, e⟩ := bitsOf_hit n c ha
      refine ⟨s, by rw [Nat.pow_succ]; omega, ?_⟩
      rw [bitsOf_succ, e, Nat.div_eq_of_lt hs]
      simp
/-- The best of the first sets. -/
def bestB (n : Nat) (good : List Nat → Bool) : Nat → Option (List Nat)
  | 0 => none
  | s + 1 => match bestB n good s with
    | none => if good (bitsOf n s) = true then some (bitsOf n s) else none
    | some b => if b.length < (bitsOf n s).length ∨ ((bitsOf n s).length = b.length ∧ nk b < nk (bitsOf n s)) ∨ good (bitsOf n s) = false then some b else some (bitsOf n s)
theorem bestB_ok (n : Nat) (good : List Nat → Bool) : ∀ s, (bestB n good s = none → ∀ t, t < s → good (bitsOf n t) = false) ∧
    (∀ b, bestB n good s = some b → good b = true ∧ Asc n 0 b ∧ ∀ t, t < s → good (bitsOf n t) = true → Bt b (bitsOf n t))
  | 0 => ⟨fun _ t h => by omega, fun b h => by simp [bestB] at h⟩
  | s + 1 => by
    obtain ⟨i1, i2⟩ := bestB_ok n good s
    cases hb : bestB n good s with
    | none =>
      have i1 := i1 hb
      simp only [bestB, hb]
      by_cases hg : good (bitsOf n s) = true
      · rw [if_pos hg]
        refine ⟨fun h => (by cases h), fun b h => ?_⟩
        injection h with h
        subst h
        refine ⟨hg, bitsOf_asc n s, fun t ht hgt => ?_⟩
        by_cases e : t = s
        · subst e; exact .inr ⟨rfl, Int.le_refl _⟩
        · rw [i1 t (by omega)] at hgt; cases hgt
      · rw [if_neg hg]
        refine ⟨fun _ t ht => ?_, fun b h => (by cases h)⟩
        by_cases e : t = s
        · subst e; simpa using hg
        · exact i1 t (by omega)
    | some b0 =>
      obtain ⟨g0, a0, l0⟩ := i2 b0 hb
      simp only [bestB, hb]
      by_cases hc : b0.length < (bitsOf n s).length ∨ ((bitsOf n s).length = b0.length ∧ nk b0 < nk (bitsOf n s)) ∨ good (bitsOf n s) = false
      · rw [if_pos hc]
        refine ⟨fun h => (by cases h), fun b h => ?_⟩
        injection h with h
        subst h
        refine ⟨g0, a0, fun t ht hgt => ?_⟩
        by_cases e : t = s
        · subst e
          unfold Bt
          rcases hc with h | h | h
          · exact .inl h
          · exact .inr ⟨h.1.symm, by omega⟩
          · rw [h] at hgt; cases hgt
        · exact l0 t (by omega) hgt
      · rw [if_neg hc]
        refine ⟨fun h => (by cases h), fun b h => ?_⟩
        injection h with h
        subst h
        have hg : good (bitsOf n s) = true := by
          cases h2 : good (bitsOf n s) with
          | true => rfl
          | false => exact absurd (.inr (.inr h2)) hc
        have hbt : Bt (bitsOf n s) b0 := by
          unfold Bt
          have c1 : ¬ b0.length < (bitsOf n s).length := fun h => hc (.inl h)
          have c2 : ¬ ((bitsOf n s).length = b0.length ∧ nk b0 < nk (bitsOf n s)) := fun h => hc (.inr (.inl h))
          by_cases e : (bitsOf n s).length = b0.length
          · right; exact ⟨e, by by_cases h3 : nk b0 < nk (bitsOf n s); exact absurd ⟨e, h3⟩ c2; omega⟩
          · left; omega
        refine ⟨hg, bitsOf_asc n s, fun t ht hgt => ?_⟩
        by_cases e : t = s
        · subst e; exact .inr ⟨rfl, Int.le_refl _⟩
        · exact hbt.trans (l0 t (by omega) hgt)
theorem bestB_least {n : Nat} {good : List Nat → Bool} (hex : ∃ c, Asc n 0 c ∧ good c = true) : ∃ c, bestB n good (2 ^ n) = some c ∧ Least n good c := by
  obtain ⟨i1, i2⟩ := bestB_ok n good (2 ^ n)
  cases hb : bestB n good (2 ^ n) with
  | none =>
    obtain ⟨c, ha, hg⟩ := hex
    obtain ⟨s, hs, rfl⟩ := bitsOf_hit n c ha
    rw [i1 hb s hs] at hg
    cases hg
  | some b =>
    obtain ⟨g, a, l⟩ := i2 b hb
    refine ⟨b, rfl, g, a, fun d hd hgd => ?_⟩
    obtain ⟨s, hs, rfl⟩ := bitsOf_hit n d hd
    exact l s hs hgd
/-- The first good one of m places. -/
def findC (n : Nat) (good : List Nat → Bool) (m : Nat) : Option (List Nat) := (combs n m 0).find? good
theorem findC_least {n : Nat} (hn : n ≤ 40) {good : List Nat → Bool} {m : Nat} (h0 : ∀ k, k < m → findC n good k = none) {c : List Nat} (h : findC n good m = some c) : Least n good c := by
  obtain ⟨hg, l1, l2, e, hpre⟩ := List.find?_eq_some_iff_append.1 h
  have hmem : c ∈ combs n m 0 := by rw [e]; simp
  obtain ⟨hl, ha⟩ := combs_mem.1 hmem
  refine ⟨hg, ha, fun d hd hgd => ?_⟩
  by_cases hlt : d.length < m
  · have h1 := h0 _ hlt
    have h2 := List.find?_eq_none.1 h1 d (combs_mem.2 ⟨rfl, hd⟩)
    exact absurd hgd h2
  · by_cases hgt : m < d.length
    · exact .inl (by omega)
    · have hdm : d ∈ combs n m 0 := combs_mem.2 ⟨by omega, hd⟩
      refine .inr ⟨by omega, ?_⟩
      have hs := combs_sorted hn m 0
      rw [e] at hdm hs
      rw [List.pairwise_append] at hs
      rcases List.mem_append.1 hdm with h | h
      · have := hpre d h
        simp [hgd] at this
      · rcases List.mem_cons.1 h with rfl | h
        · exact Int.le_refl _
        · exact Int.le_of_lt ((List.pairwise_cons.1 hs.2.1).1 d h)
theorem findC_some {n m : Nat} {good : List Nat → Bool} {c : List Nat} (h : findC n good m = some c) : c.length = m ∧ Asc n 0 c ∧ good c = true := by
  obtain ⟨hg, l1, l2, e, _⟩ := List.find?_eq_some_iff_append.1 h
  have hmem : c ∈ combs n m 0 := by rw [e]; simp
  exact ⟨(combs_mem.1 hmem).1, (combs_mem.1 hmem).2, hg⟩
end Go.Proofs.YtmfoaggohlfflaaGreatDoor

/-! ### find of the reference: the first list of places that sorts the deck. -/
namespace Go.Proofs.YtmfoaggohlfflaaGreatDoor
open Go.RowKit

/-! ### two blocks that turn -/
/-- Of the blocks of W only p and g may have turned. -/
structure Two (p g : Nat) (W w : World) : Prop where
  os : w.os = W.os
  tape : w.tape = W.tape
  output : w.output = W.output
  size : W.heap.size ≤ w.heap.size
  block : ∀ k, k < W.heap.size → k ≠ p → k ≠ g → w.heap[k]? = W.heap[k]?
theorem Two.refl (p g : Nat) (W : World) : Two p g W W := ⟨rfl, rfl, rfl, Nat.le_refl _, fun _ _ _ _ => rfl⟩
theorem Two.then {p g B : Nat} {W a b : World} (h : Two p g W a) (k : Below B a b) (hB : W.heap.size ≤ B) : Two p g W b :=
  ⟨k.os.trans h.os, k.tape.trans h.tape, k.output.trans h.output, Nat.le_trans h.size k.size, fun i hi h1 h2 => (k.block i (by omega)).trans (h.block i hi h1 h2)⟩
theorem Two.later {p g : Nat} {W a b : World} (h : Two p g W a) (k : Below a.heap.size a b) : Two p g W b := h.then k h.size
theorem Two.drew {p g : Nat} {W a : World} (h : Two p g W a) : Two p g W a.drew := ⟨h.os, h.tape, h.output, h.size, h.block⟩
theorem Two.set {p g : Nat} {W w : World} (h : Two p g W w) (o : Nat) (v : Value) : Two p g W (w.setCell ⟨p, o, none⟩ v) :=
  ⟨h.os, h.tape, h.output, by simpa [World.setCell] using h.size, fun k hk h1 h2 => (Below.heap_setCell w ⟨p, o, none⟩ v k h1).trans (h.block k hk h1 h2)⟩
theorem Two.grown {p g : Nat} {W a b : World} {row : Option Nat} (h : Two p g W a) (k : a.grownBy b row) (hr : ∀ r, row = some r → r = g ∨ W.heap.size ≤ r) : Two p g W b :=
  ⟨k.os.trans h.os, k.tape.trans h.tape, k.output.trans h.output, Nat.le_trans h.size k.size, fun i hi h1 h2 => (k.block i (Nat.lt_of_lt_of_le hi h.size) fun e => by
    rcases hr i e.symm with h3 | h3
    · exact h2 h3
    · omega).trans (h.block i hi h1 h2)⟩
theorem Two.below {p g B : Nat} {W w : World} (h : Two p g W w) (h1 : B ≤ p) (h2 : B ≤ g) (h3 : B ≤ W.heap.size) : Below B W w :=
  ⟨h.os, h.tape, h.output, h.size, fun k hk => h.block k (by omega) (by omega) (by omega)⟩
theorem Two.ob {p g lo hi : Nat} {e : TypeId} {size : Nat} {v : Value} {n : Nat} {xs : List Value} {W w : World} (h : Two p g W w) (o : Ob W lo hi e size v n xs) (h1 : p < lo ∨ hi ≤ p) (h2 : g < lo ∨ hi ≤ g) : Ob w lo hi e size v n xs := by
  refine ⟨?_, o.2⟩
  obtain ⟨⟨h3, h4⟩, h5⟩ := o
  refine ⟨h3, ?_⟩
  rcases h4 with h4 | ⟨g', cap, cur, hv, hg, hh, s⟩
  · exact .inl h4
  · have hgh := h5 g' (by rw [hv]; rfl)
    exact .inr ⟨g', cap, cur, hv, hg, (h.block g' (Array.getElem?_eq_some_iff.1 hh).1 (by omega) (by omega)).trans hh, s⟩

theorem grown_cell {w w' : World} {row : Option Nat} (hg : w.grownBy w' row) {p o : Nat} {v : Value} (h : w.cell? ⟨p, o, none⟩ = some v) (hne : ∀ k, row = some k → k ≠ p) : w'.cell? ⟨p, o, none⟩ = some v :=
  (World.cell?_of_block (hg.block p (World.block_lt_of_cell? _ _ h) (fun e => hne p e.symm rfl))).trans h
theorem grown_froz {w w' : World} {row : Option Nat} (hg : w.grownBy w' row) {p o : Nat} (h : w.frozen? ⟨p, o, none⟩ = false) (hl : p < w.heap.size) (hne : ∀ k, row = some k → k ≠ p) : w'.frozen? ⟨p, o, none⟩ = false :=
  (World.frozen?_of_block (hg.block p hl (fun e => hne p e.symm rfl))).trans h
section
variable {P : Program}
/-- append at a step of a region that draws its order; where the row lies behind it. -/
theorem step_ap2 {ops : Array Oper} {o : Oper} {a : Act} {K : Act → World → Prop} {Q : Exit → Act → World → Prop} {E : Prop} (hgd : o.guard = none) (s x : Operand) (t : TypeId)
    (ho : o.op = .call { callee := .builtin .append, args := #[s, x], argTypes := #[t, t] })
    (base : Nat) (e : TypeId) (i : TypeInfo) (z : Value) (size bytes : Nat) (ht : P.underlying t = some (.slice e)) (hi : P.info? e = some i) (hz : i.zero = some z)
    (hsize : i.size = size) (hby : i.bytes = bytes) (hzs : z.cells.size = size) (hsz : 0 < size)
    (A : Option Addr) (n c : Nat) (xs : List Value) (w : World) (hs : a.eval s = .slice A n c) (hown : w.ownsRow base e size (.slice A n c) n xs)
    (m : Nat) (cs : Array Value) (H : Nat) (hb : w.heap[H]? = some (.cells cs e (0, 0))) (hx : a.eval x = .slice (some ⟨H, 0, none⟩) m m) (hl : cs.size = m * size) (h1 : ∀ u ∈ cs.toList, u.oneCell' = true)
    (hm : 0 < m) (h63 : n + m ≤ 1099511627776) (hbytes : bytes ≤ 128) (hbase : base ≤ w.heap.size)
    (h : ∀ g cap w', w'.ownsRow base e size (.slice (some ⟨g, 0, none⟩) (n + m) cap) (n + m) (xs ++ cs.toList) → w.grownBy w' (Value.slice A n c).ownBlock → ((Value.slice A n c).ownBlock = some g ∨ g = w.heap.size) → g < w'.heap.size →
      K (a.put o.dst (.slice (some ⟨g, 0, none⟩) (n + m) cap)) w') : if Region.wanted o (yielded ops a.tmps) = true then Oper.wp P o a w K Q else E := by
  refine step_append_lies w hgd s x t ho base e i z size bytes ht hi hz hsize hby hzs hsz _ n xs hs hown ⟨H, 0, none⟩ m m cs.toList hx (by simpa using hl)
    (World.news_of_block hb) h1 hm (by unfold maxLen; omega) ?_ hbase _ rfl ?_
  · have : (n + m) * bytes ≤ 1099511627776 * 128 := Nat.mul_le_mul h63 hbytes
    omega
  · intro g cap w' h2 h3 h4 h5
    exact h g cap w' h2 h3 h4 h5
end

/-! ### the places' passes -/
def pickP (al : List (Int × Int)) (c : List Nat) : List (Int × Int) := c.map fun k => al.getD k (0, 0)
theorem pickP_length (al : List (Int × Int)) (c : List Nat) : (pickP al c).length = c.length := by simp [pickP]
/-- Do the passes at these places, behind those that are chosen, sort the deck? -/
def gdP (L T : List (List Int)) (al cur : List (Int × Int)) (c : List Nat) : Bool := decide (runL L (cur ++ pickP al c) = T)
theorem gdP_cons (L T : List (List Int)) (al cur : List (Int × Int)) (i : Nat) (c : List Nat) : gdP L T al cur (i :: c) = gdP L T al (cur ++ [al.getD i (0, 0)]) c := by
  unfold gdP pickP
  rw [List.map_cons, List.append_assoc]
  rfl
theorem find_zero (L T : List (List Int)) (al cur : List (Int × Int)) (n f : Nat) : (combs n 0 f).find? (gdP L T al cur) = if runL L cur = T then some [] else none := by
  simp only [combs, List.find?_cons, List.find?_nil]
  have e : gdP L T al cur [] = decide (runL L cur = T) := by unfold gdP pickP; simp
  rw [e]
  by_cases h : runL L cur = T
  · rw [if_pos h, decide_eq_true h]
  · rw [if_neg h, decide_eq_false h]
theorem combs_split {n m f : Nat} (h : f < n) : combs n (m + 1) f = (combs n m (f + 1)).map (f :: ·) ++ combs n (m + 1) (f + 1) := by
  simp only [combs]
  rw [show n - f = (n - (f + 1)) + 1 by omega, List.range'_succ, List.flatMap_cons]
theorem find_split {L T : List (List Int)} {al cur : List (Int × Int)} {n m f : Nat} (h : f < n) :
    (combs n (m + 1) f).find? (gdP L T al cur) = match (combs n m (f + 1)).find? (gdP L T al (cur ++ [al.getD f (0, 0)])) with
      | some c => some (f :: c)
      | none => (combs n (m + 1) (f + 1)).find? (gdP L T al cur) := by
  rw [combs_split h, List.find?_append, List.find?_map]
  have e : (gdP L T al cur) ∘ (fun x => f :: x) = gdP L T al (cur ++ [al.getD f (0, 0)]) := by
    funext c
    exact gdP_cons L T al cur f c
  rw [e]
  cases (combs n m (f + 1)).find? (gdP L T al (cur ++ [al.getD f (0, 0)])) with
  | none => rfl
  | some c => rfl
theorem find_end {L T : List (List Int)} {al cur : List (Int × Int)} {n m f : Nat} (h : n < f + (m + 1)) : (combs n (m + 1) f).find? (gdP L T al cur) = none := by
  rw [combs_none h]
  rfl

/-! ### the walk -/
/-- What lies behind the pointer p: the deck, the places, the plan, the part that is chosen. -/
structure FS (W w : World) (p g B : Nat) (D : Option Addr) (c : Nat) (hs : List Hd) (G : Option Addr) (cg : Nat) (zs : List Int) (A : Option Addr) (ca : Nat) (al : List (Int × Int)) (lz hz la ha : Nat) (cur : List (Int × Int)) : Prop where
  two : Two p g W w
  plt : p < W.heap.size
  glt : g < W.heap.size
  pB : B ≤ p
  gB : B ≤ g
  deck : RdD W B D hs
  zr : Ob W lz hz 2 1 (.slice G zs.length cg) zs.length (ints zs)
  ar : Ob W la ha 76 2 (.slice A al.length ca) al.length (prs al)
  zp : p < lz ∨ hz ≤ p
  zg : g < lz ∨ hz ≤ g
  ap : p < la ∨ ha ≤ p
  ag : g < la ∨ ha ≤ g
  c0 : w.cell? ⟨p, 0, none⟩ = some (.slice D hs.length c)
  c1 : w.cell? ⟨p, 1, none⟩ = some (.slice G zs.length cg)
  c2 : w.cell? ⟨p, 2, none⟩ = some (.slice A al.length ca)
  fr : w.frozen? ⟨p, 3, none⟩ = false
  part : ∃ P cp, w.cell? ⟨p, 3, none⟩ = some (.slice P cur.length cp) ∧ w.ownsRow B 76 2 (.slice P cur.length cp) cur.length (prs cur) ∧ ∀ k, (Value.slice P cur.length cp).ownBlock = some k → k ≠ p ∧ (k = g ∨ W.heap.size ≤ k)
section
variable {W w w' : World} {p g B : Nat} {D : Option Addr} {c : Nat} {hs : List Hd} {G : Option Addr} {cg : Nat} {zs : List Int} {A : Option Addr} {ca : Nat} {al : List (Int × Int)} {lz hz la ha : Nat} {cur : List (Int × Int)}
theorem FS.lt (h : FS W w p g B D c hs G cg zs A ca al lz hz la ha cur) : p < w.heap.size := World.block_lt_of_cell? _ _ h.c0
theorem FS.later (h : FS W w p g B D c hs G cg zs A ca al lz hz la ha cur) (hb : Below w.heap.size w w') : FS W w' p g B D c hs G cg zs A ca al lz hz la ha cur := by
  obtain ⟨P, cp, h1, h2, h3⟩ := h.part
  exact ⟨h.two.later hb, h.plt, h.glt, h.pB, h.gB, h.deck, h.zr, h.ar, h.zp, h.zg, h.ap, h.ag, cell_later hb h.c0, cell_later hb h.c1, cell_later hb h.c2, froz_later hb h.fr h.lt, P, cp, cell_later hb h1, own_bs h2 hb, h3⟩
theorem FS.rdeck (h : FS W w p g B D c hs G cg zs A ca al lz hz la ha cur) : RdD w w.heap.size D hs :=
  (h.deck.below (h.two.below h.pB h.gB (by have := h.plt; have := h.pB; omega))).more (by have := h.two.size; have := h.plt; have := h.pB; omega)
theorem FS.rzs (h : FS W w p g B D c hs G cg zs A ca al lz hz la ha cur) : Rd w w.heap.size 1 G zs.length (ints zs) := (h.two.ob h.zr h.zp h.zg).rd
theorem FS.app (h : FS W w p g B D c hs G cg zs A ca al lz hz la ha cur) {P : Option Addr} {cp : Nat} (h3 : ∀ k, (Value.slice P cur.length cp).ownBlock = some k → k ≠ p ∧ (k = g ∨ W.heap.size ≤ k)) {wa w3 : World} (hba : Below w.heap.size w wa) (hg3 : wa.grownBy w3 (Value.slice P cur.length cp).ownBlock)
    {gg cap : Nat} (hq : (Value.slice P cur.length cp).ownBlock = some gg ∨ gg = wa.heap.size) {x : Int × Int} (ho : w3.ownsRow B 76 2 (.slice (some ⟨gg, 0, none⟩) (cur.length + 1) cap) (cur.length + 1) (prs cur ++ [.int .i64 x.1, .int .i64 x.2]))
    {v : Value} (e3 : w3.cell? ⟨p, 3, none⟩ = some v) (e4 : w3.frozen? ⟨p, 3, none⟩ = false) : FS W (w3.setCell ⟨p, 3, none⟩ (.slice (some ⟨gg, 0, none⟩) (cur.length + 1) cap)) p g B D c hs G cg zs A ca al lz hz la ha (cur ++ [x]) := by
  have hk := fun k hk => (h3 k hk).1
  have hgp : gg ≠ p ∧ (gg = g ∨ W.heap.size ≤ gg) := by
    rcases hq with hq | hq
    · exact h3 gg hq
    · have := h.two.size
      have := hba.size
      have := h.plt
      omega
  have hlen : (cur ++ [x]).length = cur.length + 1 := by simp
  refine ⟨((h.two.later hba).grown hg3 fun r hr => (h3 r hr).2).set 3 _, h.plt, h.glt, h.pB, h.gB, h.deck, h.zr, h.ar, h.zp, h.zg, h.ap, h.ag, ?_, ?_, ?_, ?_, some ⟨gg, 0, none⟩, cap, ?_, ?_, ?_⟩
  · rw [World.cell?_setCell_other _ _ _ _ (by simp)]; exact grown_cell hg3 (cell_later hba h.c0) hk
  · rw [World.cell?_setCell_other _ _ _ _ (by simp)]; exact grown_cell hg3 (cell_later hba h.c1) hk
  · rw [World.cell?_setCell_other _ _ _ _ (by simp)]; exact grown_cell hg3 (cell_later hba h.c2) hk
  · simp [e4]
  · rw [hlen]; exact World.cell?_setCell_same _ _ _ e3
  · rw [hlen, prs_append]
    exact ownsRow_setCell_other ho (by simp only [Value.ownBlock]; intro e; injection e with e; exact hgp.1 e) _
  · intro k hk2
    simp only [Value.ownBlock, Option.some.injEq] at hk2
    subst hk2
    exact hgp
theorem FS.cut {x : Int × Int} (h : FS W w p g B D c hs G cg zs A ca al lz hz la ha (cur ++ [x])) {P : Option Addr} {cp : Nat} (h1 : w.cell? ⟨p, 3, none⟩ = some (.slice P (cur ++ [x]).length cp)) (ho : w.ownsRow B 76 2 (.slice P (cur ++ [x]).length cp) (cur ++ [x]).length (prs (cur ++ [x])))
    (h3 : ∀ k, (Value.slice P (cur ++ [x]).length cp).ownBlock = some k → k ≠ p ∧ (k = g ∨ W.heap.size ≤ k)) : FS W (w.setCell ⟨p, 3, none⟩ (.slice P cur.length cp)) p g B D c hs G cg zs A ca al lz hz la ha cur := by
  obtain ⟨gg, rfl, hg1, hg2⟩ := own_at ho (k := 0) (by simp)
  have hgp := h3 gg rfl
  refine ⟨h.two.set 3 _, h.plt, h.glt, h.pB, h.gB, h.deck, h.zr, h.ar, h.zp, h.zg, h.ap, h.ag, ?_, ?_, ?_, ?_, some ⟨gg, 0, none⟩, cp, ?_, ?_, ?_⟩
  · rw [World.cell?_setCell_other _ _ _ _ (by simp)]; exact h.c0
  · rw [World.cell?_setCell_other _ _ _ _ (by simp)]; exact h.c1
  · rw [World.cell?_setCell_other _ _ _ _ (by simp)]; exact h.c2
  · simp [h.fr]
  · exact World.cell?_setCell_same _ _ _ h1
  · have := own_short ho (j := cur.length) (by simp)
    rw [prs_take, List.take_left] at this
    exact ownsRow_setCell_other this (by simp only [Value.ownBlock]; intro e; injection e with e; exact hgp.1 e) _
  · intro k hk2
    simp only [Value.ownBlock, Option.some.injEq] at hk2
    subst hk2
    exact hgp
theorem FS.ral (h : FS W w p g B D c hs G cg zs A ca al lz hz la ha cur) : Rd w w.heap.size 2 A al.length (prs al) := (h.two.ob h.ar h.ap h.ag).rd
end

/-- What find hands back. -/
def FindPost (W : World) (p g B : Nat) (D : Option Addr) (c : Nat) (hs : List Hd) (G : Option Addr) (cg : Nat) (zs : List Int) (A : Option Addr) (ca : Nat) (al : List (Int × Int)) (lz hz la ha : Nat) (cur : List (Int × Int)) (m f : Nat) (e : Ending) (w' : World) : Prop :=
  match (combs al.length m f).find? (gdP (cards hs) (pickL (cards hs) zs) al cur) with
  | some d => e = .returned (.bool true) ∧ FS W w' p g B D c hs G cg zs A ca al lz hz la ha (cur ++ pickP al d)
  | none => e = .returned (.bool false) ∧ FS W w' p g B D c hs G cg zs A ca al lz hz la ha cur
/-- Behind the places f, .., i - 1. -/
def FnR (W : World) (p g B : Nat) (D : Option Addr) (c : Nat) (hs : List Hd) (G : Option Addr) (cg : Nat) (zs : List Int) (A : Option Addr) (ca : Nat) (al : List (Int × Int)) (lz hz la ha : Nat) (cur : List (Int × Int)) (m f : Nat) (wr : World) (q : Value) : Prop :=
  ∃ i : Nat, i ≤ al.length ∧ q = .int .i64 i ∧ FS W wr p g B D c hs G cg zs A ca al lz hz la ha cur ∧
    (combs al.length (m + 1) f).find? (gdP (cards hs) (pickL (cards hs) zs) al cur) = (combs al.length (m + 1) i).find? (gdP (cards hs) (pickL (cards hs) zs) al cur)

theorem passes_mk {W : Int} {ps : List (Int × Int)} (h : ∀ p ∈ ps, passOk W p = true) (hl : ps.length ≤ 40) : passesOk W ps = true := by
  have : ps.all (passOk W) = true := List.all_eq_true.2 h
  simp [passesOk, this, hl]

end Go.Proofs.YtmfoaggohlfflaaGreatDoor

/-! ### FewestPasses in the reference. -/
namespace Go.Proofs.YtmfoaggohlfflaaGreatDoor
open Go.RowKit

/-! ### the plain law -/
/-- The least list of places of the full plan whose passes sort a deck. -/
def fewN (L : List (List Int)) (a b : Int) : List Nat := (bestB (planOf b (b - a).toNat).length (gdP L (sortedL L a b) (planOf b (b - a).toNat) []) (2 ^ (planOf b (b - a).toNat).length)).getD []
def fewC (L : List (List Int)) (a b : Int) : Int := if codeK L a b = 0 then (if 4 < b - a then 5 else 0) else codeK L a b
def fewR (L : List (List Int)) (a b : Int) : List (Int × Int) := if fewC L a b = 0 then pickP (planOf b (b - a).toNat) (fewN L a b) else []
theorem fewC_k {L : List (List Int)} {a b : Int} (h : codeK L a b ≠ 0) : fewC L a b = codeK L a b ∧ fewR L a b = [] := by
  have h1 : fewC L a b = codeK L a b := by unfold fewC; rw [if_neg h]
  exact ⟨h1, by unfold fewR; rw [if_neg (by rw [h1]; exact h)]⟩
theorem fewC_5 {L : List (List Int)} {a b : Int} (h : codeK L a b = 0) (h4 : 4 < b - a) : fewC L a b = 5 ∧ fewR L a b = [] := by
  have h1 : fewC L a b = 5 := by unfold fewC; rw [if_pos h, if_pos h4]
  exact ⟨h1, by unfold fewR; rw [if_neg (by rw [h1]; decide)]⟩
theorem fewC_0 {L : List (List Int)} {a b : Int} (h : codeK L a b = 0) (h4 : ¬ 4 < b - a) : fewC L a b = 0 ∧ fewR L a b = pickP (planOf b (b - a).toNat) (fewN L a b) := by
  have h1 : fewC L a b = 0 := by unfold fewC; rw [if_pos h, if_neg h4]
  exact ⟨h1, by unfold fewR; rw [if_pos h1]⟩
theorem pickP_all (al : List (Int × Int)) : pickP al (List.range al.length) = al := by
  unfold pickP
  apply List.ext_getElem
  · simp
  · intro k h1 h2
    simp [List.getD, List.getElem?_eq_getElem h2]
theorem asc_all (n : Nat) : Asc n 0 (List.range n) := ⟨List.pairwise_lt_range, fun x hx => ⟨Nat.zero_le _, List.mem_range.1 hx⟩⟩
theorem few_ex {L : List (List Int)} {i j : Nat} (hc : codeK L (i : Int) (j : Int) = 0) (hij : i < j) : ∃ c, Asc (planOf (j : Int) (j - i)).length 0 c ∧ gdP L (sortedL L (i : Int) (j : Int)) (planOf (j : Int) (j - i)) [] c = true := by
  obtain ⟨h1, h2, h3⟩ := codeK_zero hc
  have h4 := (fieldOk_true h2).2.2
  refine ⟨_, asc_all _, ?_⟩
  unfold gdP
  rw [pickP_all, List.nil_append]
  exact decide_eq_true (full_sorts h1 hij (by omega) h3)
theorem few_least {L : List (List Int)} {i j : Nat} (hc : codeK L (i : Int) (j : Int) = 0) (hij : i < j) : Least (planOf (j : Int) (j - i)).length (gdP L (sortedL L (i : Int) (j : Int)) (planOf (j : Int) (j - i)) []) (fewN L (i : Int) (j : Int)) := by
  have e : ((j : Int) - (i : Int)).toNat = j - i := by omega
  obtain ⟨c, h1, h2⟩ := bestB_least (few_ex hc hij)
  unfold fewN
  rw [e, h1]
  exact h2
/-- The first list that is found, shorter ones first. -/
theorem few_find {L : List (List Int)} {i j m : Nat} (hc : codeK L (i : Int) (j : Int) = 0) (hij : i < j) (hn : (planOf (j : Int) (j - i)).length ≤ 40)
    (h0 : ∀ k, k < m → (combs (planOf (j : Int) (j - i)).length k 0).find? (gdP L (sortedL L (i : Int) (j : Int)) (planOf (j : Int) (j - i)) []) = none) {c : List Nat}
    (h : (combs (planOf (j : Int) (j - i)).length m 0).find? (gdP L (sortedL L (i : Int) (j : Int)) (planOf (j : Int) (j - i)) []) = some c) : c = fewN L (i : Int) (j : Int) :=
  Least.unique hn (findC_least hn h0 h) (few_least hc hij)
theorem few_stop {L : List (List Int)} {i j m : Nat} (hc : codeK L (i : Int) (j : Int) = 0) (hij : i < j)
    (h0 : ∀ k, k < m → (combs (planOf (j : Int) (j - i)).length k 0).find? (gdP L (sortedL L (i : Int) (j : Int)) (planOf (j : Int) (j - i)) []) = none) : m ≤ (planOf (j : Int) (j - i)).length := by
  refine Classical.byContradiction fun hm => ?_
  have h1 := h0 (planOf (j : Int) (j - i)).length (by omega)
  have h2 := List.find?_eq_none.1 h1 (List.range (planOf (j : Int) (j - i)).length) (combs_mem.2 ⟨by simp, asc_all _⟩)
  apply h2
  obtain ⟨k1, k2, k3⟩ := codeK_zero hc
  have h4 := (fieldOk_true k2).2.2
  unfold gdP
  rw [pickP_all, List.nil_append]
  exact decide_eq_true (full_sorts k1 hij (by omega) k3)
theorem fewR_length (L : List (List Int)) (a b : Int) : (fewR L a b).length ≤ 40 := by
  unfold fewR
  by_cases h : fewC L a b = 0
  · rw [if_pos h, pickP_length]
    unfold fewC at h
    by_cases h1 : codeK L a b = 0
    · rw [if_pos h1] at h
      by_cases h2 : 4 < b - a
      · rw [if_pos h2] at h; cases h
      · obtain ⟨_, h4, _⟩ := codeK_zero h1
        obtain ⟨i, j, rfl, rfl, hij, _⟩ := fieldOk_nat h4
        have h5 := (few_least h1 hij).asc
        have h6 := bitsOf_hit _ _ h5
        obtain ⟨s, _, hs⟩ := h6
        rw [← hs]
        have := List.length_filter_le (fun k => s / 2 ^ k % 2 == 1) (List.range (planOf (j : Int) (j - i)).length)
        rw [List.length_range, planOf_length] at this
        unfold bitsOf
        rw [planOf_length]
        omega
    · rw [if_neg h1] at h; exact absurd h h1
  · rw [if_neg h]; simp
theorem plan_ok {W : Nat} {i j : Nat} (hij : i < j) (hj : j ≤ W) : ∀ q ∈ planOf (j : Int) (j - i), passOk (W : Int) q = true := by
  intro q hq
  have h1 := planOf_at hq
  have h2 := planOf_modes _ _ q hq
  unfold passOk
  rw [insideB_mk (by omega) (by omega)]
  unfold modeB
  rcases h2 with h2 | h2 <;> rw [h2] <;> rfl

/-! ### the walk -/
/-- Behind the pointer v: nothing is chosen yet. -/
def FewS (w2 : World) (B : Nat) (D : Option Addr) (c : Nat) (hs : List Hd) (zs : List Int) (al : List (Int × Int)) (v : Value) (wx : World) : Prop :=
  ∃ p g G cg A ca lz hz la ha, v = .pointer (some ⟨p, 0, none⟩) ∧ FS wx wx p g B D c hs G cg zs A ca al lz hz la ha [] ∧ Below w2.heap.size w2 wx

theorem lit_own (w : World) : (w.alloc (.cells #[] 76)).ownsRow w.heap.size 76 2 (.slice (some ⟨w.heap.size, 0, none⟩) 0 0) 0 [] := own_lit w #[] 0 rfl (Nat.le_refl _) (by omega) rfl

theorem FS.fresh {W w : World} {p g B : Nat} {D : Option Addr} {c : Nat} {hs : List Hd} {G : Option Addr} {cg : Nat} {zs : List Int} {A : Option Addr} {ca : Nat} {al : List (Int × Int)} {lz hz la ha : Nat} {cur : List (Int × Int)} (h : FS W w p g B D c hs G cg zs A ca al lz hz la ha cur) :
    FS W ((w.setCell ⟨p, 3, none⟩ (.slice (some ⟨w.heap.size, 0, none⟩) 0 0)).alloc (.cells #[] 76)) p g B D c hs G cg zs A ca al lz hz la ha [] := by
  obtain ⟨P, cp, h1, _, _⟩ := h.part
  have hlt := h.lt
  have hz := h.two.size
  have hp := h.plt
  have hpB := h.pB
  refine ⟨(h.two.set 3 _).later (ba (b0 _) _), h.plt, h.glt, h.pB, h.gB, h.deck, h.zr, h.ar, h.zp, h.zg, h.ap, h.ag, ?_, ?_, ?_, ?_, some ⟨w.heap.size, 0, none⟩, 0, ?_, ?_, ?_⟩
  · exact cell_alloc (by rw [World.cell?_setCell_other _ _ _ _ (by simp)]; exact h.c0) _
  · exact cell_alloc (by rw [World.cell?_setCell_other _ _ _ _ (by simp)]; exact h.c1) _
  · exact cell_alloc (by rw [World.cell?_setCell_other _ _ _ _ (by simp)]; exact h.c2) _
  · exact froz_alloc (by simp [h.fr]) (by simpa using hlt) _
  · exact cell_alloc (World.cell?_setCell_same _ _ _ h1) _
  · exact own_lit _ #[] 0 (by simp) (by simp; omega) (by omega) rfl
  · intro k hk
    simp only [Value.ownBlock, List.length_nil, Option.some.injEq] at hk
    subst hk
    exact ⟨by omega, .inr hz⟩
/-- Behind the lists of fewer than m places. -/
def FwR (W : World) (p g B : Nat) (D : Option Addr) (c : Nat) (hs : List Hd) (G : Option Addr) (cg : Nat) (zs : List Int) (A : Option Addr) (ca : Nat) (al : List (Int × Int)) (lz hz la ha : Nat) (wr : World) (q : Value) : Prop :=
  ∃ m : Nat, q = .int .i64 m ∧ FS W wr p g B D c hs G cg zs A ca al lz hz la ha [] ∧ ∀ k, k < m → (combs al.length k 0).find? (gdP (cards hs) (pickL (cards hs) zs) al []) = none

end Go.Proofs.YtmfoaggohlfflaaGreatDoor

/-! ### Passes that part nothing may be left out; the least plan has none that may. No walk here. -/
namespace Go.Proofs.YtmfoaggohlfflaaGreatDoor
open Go.RowKit

/-- All cards have one pocket. -/
theorem idle_iff {L : List (List Int)} {i : Nat} {b : Int} : idleB L i b = true ↔ ∀ x ∈ L, ∀ y ∈ L, pkt x i b = pkt y i b := by
  unfold idleB
  cases L with
  | nil => simp
  | cons h t =>
    rw [Bool.not_eq_true', List.any_eq_false]
    constructor
    · intro hh x hx y hy
      have h1 := hh x hx
      have h2 := hh y hy
      simp only [List.headD_cons, bne_iff_ne, ne_eq, Decidable.not_not] at h1 h2
      rw [h1, h2]
    · intro hh x hx
      simp only [List.headD_cons, bne_iff_ne, ne_eq, Decidable.not_not]
      exact hh x hx h (List.mem_cons_self ..)
theorem idle_perm {L M : List (List Int)} (h : M.Perm L) {i : Nat} {b : Int} (hi : idleB L i b = true) : idleB M i b = true :=
  idle_iff.2 fun x hx y hy => idle_iff.1 hi x (h.mem_iff.1 hx) y (h.mem_iff.1 hy)
/-- One pocket alone is full: gathering gives the deck. -/
theorem one_part {α : Type} (f : α → Int) (L : List α) (v : Int) (hv : ∀ x ∈ L, f x = v) : ∀ (ks : List Nat), ks.Nodup → (ks.any fun (k : Nat) => v == (k : Int)) = true → (ks.flatMap fun (k : Nat) => L.filter fun x => f x == (k : Int)) = L
  | [], _, h => by simp at h
  | k :: ks, hn, h => by
    obtain ⟨h1, h2⟩ := List.nodup_cons.1 hn
    have hf : ∀ m : Nat, (L.filter fun x => f x == (m : Int)) = if v = (m : Int) then L else [] := by
      intro m
      by_cases e : v = (m : Int)
      · rw [if_pos e, List.filter_eq_self]
        intro x hx
        simp [hv x hx, e]
      · rw [if_neg e, List.filter_eq_nil_iff]
        intro x hx
        simp [hv x hx, e]
    rw [List.flatMap_cons, hf k]
    by_cases e : v = (k : Int)
    · rw [if_pos e]
      have : (ks.flatMap fun (m : Nat) => L.filter fun x => f x == (m : Int)) = [] := by
        rw [List.flatMap_eq_nil_iff]
        intro m hm
        rw [hf m, if_neg]
        intro e2
        have : m = k := by omega
        subst this
        exact h1 hm
      rw [this, List.append_nil]
    · rw [if_neg e, List.nil_append]
      refine one_part f L v hv ks h2 ?_
      have : (v == (k : Int)) = false := beq_eq_false_iff_ne.2 e
      simpa [List.any_cons, this] using h
theorem runP_idle {L : List (List Int)} {p : Int × Int} (hp : p.2 = 1 ∨ p.2 = 2) (hi : idleP L p = true) : runP L p = L := by
  unfold runP
  rw [gath_sort]
  unfold pocketL
  cases L with
  | nil =>
    rw [List.flatMap_eq_nil_iff]
    intro m _
    rfl
  | cons h t =>
    exact one_part (fun x => pkt x p.1.toNat p.2) (h :: t) (pkt h p.1.toNat p.2) (fun x hx => idle_iff.1 hi x hx h (List.mem_cons_self ..)) _ (ordN_nodup _) (pkt_ord _ _ hp)
theorem runP_perm' (L : List (List Int)) {p : Int × Int} (h : p.2 = 1 ∨ p.2 = 2) : (runP L p).Perm L := runP_perm L h
theorem runL_skip {ps : List (Int × Int)} : ∀ {L M : List (List Int)}, (∀ p ∈ ps, p.2 = 1 ∨ p.2 = 2) → M.Perm L → runL M (keep (idleP L) ps) = runL M ps := by
  induction ps with
  | nil => intro L M _ _; rfl
  | cons p ps ih =>
    intro L M hm hM
    have hp := hm p (List.mem_cons_self ..)
    have hms : ∀ q ∈ ps, q.2 = 1 ∨ q.2 = 2 := fun q hq => hm q (List.mem_cons_of_mem _ hq)
    have e2 : runL M (p :: ps) = runL (runP M p) ps := rfl
    rw [e2]
    by_cases h : idleP L p = true
    · have e1 : keep (idleP L) (p :: ps) = keep (idleP L) ps := by unfold keep; rw [List.filter_cons]; simp [h]
      rw [e1, runP_idle hp (idle_perm hM h)]
      exact ih hms hM
    · have e1 : keep (idleP L) (p :: ps) = p :: keep (idleP L) ps := by unfold keep; rw [List.filter_cons]; simp [h]
      rw [e1]
      exact ih hms ((runP_perm M hp).trans hM)
/-- A pass that parts nothing, struck out. -/
theorem runL_erase {L : List (List Int)} : ∀ {ps : List (Int × Int)} {M : List (List Int)} {k : Nat} (hk : k < ps.length), (∀ p ∈ ps, p.2 = 1 ∨ p.2 = 2) → M.Perm L → idleP L ps[k] = true → runL M (ps.take k ++ ps.drop (k + 1)) = runL M ps
  | [], M, k, hk, _, _, _ => by simp at hk
  | p :: ps, M, 0, hk, hm, hM, hi => by
    have hp := hm p (List.mem_cons_self ..)
    have e2 : runL M (p :: ps) = runL (runP M p) ps := rfl
    rw [e2, runP_idle hp (idle_perm hM hi)]
    rfl
  | p :: ps, M, k + 1, hk, hm, hM, hi => by
    have hp := hm p (List.mem_cons_self ..)
    have hms : ∀ q ∈ ps, q.2 = 1 ∨ q.2 = 2 := fun q hq => hm q (List.mem_cons_of_mem _ hq)
    exact runL_erase (ps := ps) (M := runP M p) (k := k) (by simpa using hk) hms ((runP_perm M hp).trans hM) (by simpa using hi)
section
variable {L : List (List Int)} {i j : Nat}
theorem short_pick (L : List (List Int)) (al : List (Int × Int)) : pickP al ((List.range al.length).filter fun k => !idleP L (al.getD k (0, 0))) = keep (idleP L) al := by
  have h := pickP_all al
  unfold pickP at h ⊢
  unfold keep
  conv => rhs; rw [← h]
  rw [List.filter_map]
  rfl
theorem filter_asc (n : Nat) (p : Nat → Bool) : Asc n 0 ((List.range n).filter p) :=
  ⟨List.pairwise_lt_range.sublist List.filter_sublist, fun x hx => ⟨Nat.zero_le _, List.mem_range.1 (List.mem_filter.1 hx).1⟩⟩
theorem short_sorts (hc : codeK L (i : Int) (j : Int) = 0) (hij : i < j) : runL L (shortRes L (i : Int) (j : Int)) = sortedL L (i : Int) (j : Int) := by
  obtain ⟨h1, h2, h3⟩ := codeK_zero hc
  have h4 := (fieldOk_true h2).2.2
  have e : ((j : Int) - (i : Int)).toNat = j - i := by omega
  rw [shortRes_0 hc, e, runL_skip (planOf_modes _ _) (List.Perm.refl _)]
  exact full_sorts h1 hij (by omega) h3
theorem few_short (hc : codeK L (i : Int) (j : Int) = 0) (hij : i < j) (h4 : ¬ (4 : Int) < (j : Int) - (i : Int)) : (fewR L (i : Int) (j : Int)).length ≤ (shortRes L (i : Int) (j : Int)).length := by
  have e : ((j : Int) - (i : Int)).toNat = j - i := by omega
  have hl := few_least hc hij
  have hs := short_sorts hc hij
  rw [(fewC_0 hc h4).2, e, pickP_length]
  rw [shortRes_0 hc, e, ← short_pick] at hs ⊢
  rw [pickP_length]
  have := hl.least _ (filter_asc _ _) (by unfold gdP; rw [List.nil_append]; exact decide_eq_true hs)
  unfold Bt at this
  omega
theorem few_ok (hc : codeK L (i : Int) (j : Int) = 0) (hij : i < j) (h4 : ¬ (4 : Int) < (j : Int) - (i : Int)) : runL L (fewR L (i : Int) (j : Int)) = sortedL L (i : Int) (j : Int) := by
  have e : ((j : Int) - (i : Int)).toNat = j - i := by omega
  have hl := (few_least hc hij).ok
  rw [(fewC_0 hc h4).2, e]
  unfold gdP at hl
  rw [List.nil_append] at hl
  exact of_decide_eq_true hl
theorem few_mem (hc : codeK L (i : Int) (j : Int) = 0) (hij : i < j) (h4 : ¬ (4 : Int) < (j : Int) - (i : Int)) {q : Int × Int} (hq : q ∈ fewR L (i : Int) (j : Int)) : q ∈ planOf (j : Int) (j - i) := by
  have e : ((j : Int) - (i : Int)).toNat = j - i := by omega
  rw [(fewC_0 hc h4).2, e] at hq
  obtain ⟨x, hx, rfl⟩ := List.mem_map.1 hq
  have := ((few_least hc hij).asc.2 x hx).2
  rw [List.getD, List.getElem?_eq_getElem this]
  exact List.getElem_mem this
theorem take_drop_asc {n : Nat} {c : List Nat} (h : Asc n 0 c) (k : Nat) : Asc n 0 (c.take k ++ c.drop (k + 1)) := by
  have hs : (c.take k ++ c.drop (k + 1)).Sublist c := by
    conv => rhs; rw [← List.take_append_drop k c]
    refine List.Sublist.append (List.Sublist.refl _) ?_
    rw [show c.drop (k + 1) = (c.drop k).drop 1 by rw [List.drop_drop]]
    exact List.drop_sublist 1 _
  exact ⟨h.1.sublist hs, fun x hx => h.2 x (hs.mem hx)⟩
/-- Without one of them it is not sorted. -/
theorem few_less (hc : codeK L (i : Int) (j : Int) = 0) (hij : i < j) (h4 : ¬ (4 : Int) < (j : Int) - (i : Int)) {k : Nat} (hk : k < (fewR L (i : Int) (j : Int)).length) :
    runL L ((fewR L (i : Int) (j : Int)).take k ++ (fewR L (i : Int) (j : Int)).drop (k + 1)) ≠ sortedL L (i : Int) (j : Int) := by
  have e : ((j : Int) - (i : Int)).toNat = j - i := by omega
  rw [(fewC_0 hc h4).2, e] at hk ⊢
  intro hr
  have hl := few_least hc hij
  have e2 : (pickP (planOf (j : Int) (j - i)) (fewN L (i : Int) (j : Int))).take k ++ (pickP (planOf (j : Int) (j - i)) (fewN L (i : Int) (j : Int))).drop (k + 1) = pickP (planOf (j : Int) (j - i)) ((fewN L (i : Int) (j : Int)).take k ++ (fewN L (i : Int) (j : Int)).drop (k + 1)) := by
    unfold pickP
    rw [List.map_append, List.map_take, List.map_drop]
  rw [e2] at hr
  have := hl.least _ (take_drop_asc hl.asc k) (by unfold gdP; rw [List.nil_append]; exact decide_eq_true hr)
  rw [pickP_length] at hk
  unfold Bt at this
  rw [List.length_append, List.length_take, List.length_drop] at this
  omega
theorem few_busy (hc : codeK L (i : Int) (j : Int) = 0) (hij : i < j) (h4 : ¬ (4 : Int) < (j : Int) - (i : Int)) {k : Nat} (hk : k < (fewR L (i : Int) (j : Int)).length) : idleP L (fewR L (i : Int) (j : Int))[k] = false := by
  cases h : idleP L (fewR L (i : Int) (j : Int))[k] with
  | false => rfl
  | true =>
    refine absurd ?_ (few_less hc hij h4 hk)
    rw [runL_erase hk (fun p hp => planOf_modes _ _ p (few_mem hc hij h4 hp)) (List.Perm.refl _) h]
    exact few_ok hc hij h4
end
end Go.Proofs.YtmfoaggohlfflaaGreatDoor
