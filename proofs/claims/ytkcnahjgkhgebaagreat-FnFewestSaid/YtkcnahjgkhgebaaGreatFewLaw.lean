/- The least of the lists of places that are good: two ways of finding it. No walk here. -/
import Derived.Test.YtkcnahjgkhgebaaGreatSortKey
namespace Go.Proofs.YtkcnahjgkhgebaaGreat
open Go.RowKit

/-! ### the least of the lists of places that are good -/
def zs (c : List Nat) : List Int := c.map fun (k : Nat) => (k : Int)
def nk (c : List Nat) : Int := numK (zs c)
theorem zs_length (c : List Nat) : (zs c).length = c.length := by simp [zs]
theorem zs_inj {c d : List Nat} (h : zs c = zs d) : c = d := by
  unfold zs at h
  have := List.map_inj_right (f := fun (k : Nat) => (k : Int)) (fun a b e => by omega) (l := c) (l' := d)
  exact this.1 h
theorem zs_range {c : List Nat} (h : ∀ x ∈ c, x < 40) : ∀ x ∈ zs c, -1 ≤ x ∧ x ≤ 39 := by
  intro x hx
  obtain ⟨k, hk, rfl⟩ := List.mem_map.1 hx
  have := h k hk
  omega
theorem nk_inj {c d : List Nat} (hl : c.length = d.length) (hc : ∀ x ∈ c, x < 40) (hd : ∀ x ∈ d, x < 40) (h : nk c = nk d) : c = d := by
  have h1 := (cmpN_num (zs c) (zs d) (by rw [zs_length, zs_length, hl]) (zs_range hc) (zs_range hd)).2.2 h
  exact zs_inj ((cmpN_zero (by rw [zs_length, zs_length, hl])).1 h1)
theorem nk_cons_lt {i j : Nat} {c d : List Nat} (hl : c.length = d.length) (hc : ∀ x ∈ c, x < 40) (hd : ∀ x ∈ d, x < 40) (hi : i < j) (hj : j < 40) : nk (i :: c) < nk (j :: d) := by
  refine (cmpN_num (zs (i :: c)) (zs (j :: d)) (by simp [zs, hl]) (zs_range ?_) (zs_range ?_)).1.1 ?_
  · intro x hx
    rcases List.mem_cons.1 hx with rfl | hx
    · omega
    · exact hc x hx
  · intro x hx
    rcases List.mem_cons.1 hx with rfl | hx
    · omega
    · exact hd x hx
  · simp only [zs, List.map_cons, cmpN]
    rw [if_pos (by omega)]
    decide
theorem nk_cons_eq {i : Nat} {c d : List Nat} (hl : c.length = d.length) (h : nk c < nk d) : nk (i :: c) < nk (i :: d) := by
  unfold nk zs at h ⊢
  simp only [List.map_cons, numK, List.length_map, hl]
  omega
/-- The lists of m rising places from f to n - 1. -/
def combs (n : Nat) : Nat → Nat → List (List Nat)
  | 0, _ => [[]]
  | m + 1, f => (List.range' f (n - f)).flatMap fun i => (combs n m (i + 1)).map (i :: ·)
def Asc (n f : Nat) (c : List Nat) : Prop := c.Pairwise (· < ·) ∧ ∀ x ∈ c, f ≤ x ∧ x < n
theorem combs_mem {n : Nat} : ∀ {m f : Nat} {c : List Nat}, c ∈ combs n m f ↔ c.length = m ∧ Asc n f c
  | 0, f, c => by
    simp only [combs, List.mem_singleton, Asc]
    constructor
    · rintro rfl; simp
    · intro h; exact List.eq_nil_of_length_eq_zero h.1
  | m + 1, f, c => by
    simp only [combs, List.mem_flatMap, List.mem_map, List.mem_range'_1]
    constructor
    · rintro ⟨i, hi, d, hd, rfl⟩
      obtain ⟨h1, h2, h3⟩ := combs_mem.1 hd
      refine ⟨by simp [h1], List.pairwise_cons.2 ⟨fun x hx => by have := h3 x hx; omega, h2⟩, fun x hx => ?_⟩
      rcases List.mem_cons.1 hx with rfl | hx
      · omega
      · have := h3 x hx; omega
    · rintro ⟨h1, h2, h3⟩
      cases c with
      | nil => simp at h1
      | cons i d =>
        obtain ⟨h4, h5⟩ := List.pairwise_cons.1 h2
        have hi := h3 i (List.mem_cons_self ..)
        refine ⟨i, by omega, d, combs_mem.2 ⟨by simpa using h1, h5, fun x hx => ?_⟩, rfl⟩
        have a1 := h4 x hx
        have a2 := h3 x (List.mem_cons_of_mem _ hx)
        omega
theorem combs_sorted {n : Nat} (hn : n ≤ 40) : ∀ (m f : Nat), (combs n m f).Pairwise fun c d => nk c < nk d
  | 0, f => by simp [combs]
  | m + 1, f => by
    simp only [combs]
    rw [List.pairwise_flatMap]
    constructor
    · intro i _
      rw [List.pairwise_map]
      refine List.Pairwise.imp_of_mem ?_ (combs_sorted hn m (i + 1))
      intro c d hc hd h
      exact nk_cons_eq (by rw [(combs_mem.1 hc).1, (combs_mem.1 hd).1]) h
    · refine List.Pairwise.imp_of_mem ?_ (List.pairwise_lt_range' (s := f) (n := n - f))
      intro i j hi hj hij x hx y hy
      obtain ⟨c, hc, rfl⟩ := List.mem_map.1 hx
      obtain ⟨d, hd, rfl⟩ := List.mem_map.1 hy
      rw [List.mem_range'_1] at hj
      have c1 := combs_mem.1 hc
      have d1 := combs_mem.1 hd
      exact nk_cons_lt (by rw [c1.1, d1.1]) (fun x hx => by have := c1.2.2 x hx; omega) (fun x hx => by have := d1.2.2 x hx; omega) hij (by omega)
theorem combs_none {n m f : Nat} (h : n < f + (m + 1)) : combs n (m + 1) f = [] := by
  refine List.eq_nil_iff_forall_not_mem.2 fun c hc => ?_
  obtain ⟨h1, h2, h3⟩ := combs_mem.1 hc
  -- a rising list of m + 1 places from f on ends at f + m or later
  have key : ∀ (l : List Nat) (f : Nat), l.Pairwise (· < ·) → (∀ x ∈ l, f ≤ x ∧ x < n) → l ≠ [] → f + l.length ≤ n := by
    intro l
    induction l with
    | nil => intro f _ _ h; exact absurd rfl h
    | cons i l ih =>
      intro f hp hb _
      obtain ⟨a1, a2⟩ := List.pairwise_cons.1 hp
      have hi := hb i (List.mem_cons_self ..)
      by_cases e : l = []
      · subst e; simp; omega
      · have := ih (i + 1) a2 (fun x hx => by have b1 := a1 x hx; have b2 := hb x (List.mem_cons_of_mem _ hx); omega) e
        simp only [List.length_cons]
        omega
  have := key c f h2 h3 (by intro e; subst e; simp at h1)
  omega
/-- a is not behind b. -/
def Bt (a b : List Nat) : Prop := a.length < b.length ∨ (a.length = b.length ∧ nk a ≤ nk b)
theorem Bt.trans {a b c : List Nat} (h : Bt a b) (k : Bt b c) : Bt a c := by unfold Bt at *; omega
theorem Bt.anti {n : Nat} (hn : n ≤ 40) {a b : List Nat} (ha : Asc n 0 a) (hb : Asc n 0 b) (h : Bt a b) (k : Bt b a) : a = b := by
  unfold Bt at h k
  exact nk_inj (by omega) (fun x hx => by have := ha.2 x hx; omega) (fun x hx => by have := hb.2 x hx; omega) (by omega)
/-- The good one that comes first. -/
structure Least (n : Nat) (good : List Nat → Bool) (c : List Nat) : Prop where
  ok : good c = true
  asc : Asc n 0 c
  least : ∀ d, Asc n 0 d → good d = true → Bt c d
theorem Least.unique {n : Nat} (hn : n ≤ 40) {good : List Nat → Bool} {c d : List Nat} (h : Least n good c) (k : Least n good d) : c = d :=
  Bt.anti hn h.asc k.asc (h.least d k.asc k.ok) (k.least c h.asc h.ok)
/-- The places of the bits of a number. -/
def bitsOf (n s : Nat) : List Nat := (List.range n).filter fun i => s / 2 ^ i % 2 == 1
theorem bitsOf_succ (n s : Nat) : bitsOf (n + 1) s = bitsOf n s ++ if s / 2 ^ n % 2 = 1 then [n] else [] := by
  unfold bitsOf
  rw [List.range_succ, List.filter_append]
  congr 1
  by_cases h : s / 2 ^ n % 2 = 1 <;> simp [h]
theorem bitsOf_asc (n s : Nat) : Asc n 0 (bitsOf n s) := by
  unfold bitsOf
  refine ⟨List.pairwise_lt_range.sublist List.filter_sublist, fun x hx => ⟨Nat.zero_le _, List.mem_range.1 (List.mem_filter.1 hx).1⟩⟩
theorem bitsOf_add (n : Nat) : ∀ m s, m ≤ n → bitsOf m (s + 2 ^ n) = bitsOf m s
  | 0, _, _ => rfl
  | m + 1, s, h => by
    rw [bitsOf_succ, bitsOf_succ, bitsOf_add n m s (by omega)]
    have e : (s + 2 ^ n) / 2 ^ m % 2 = s / 2 ^ m % 2 := by
      have h2 : 2 ^ n = 2 ^ m * (2 * 2 ^ (n - m - 1)) := by
        rw [← Nat.pow_succ', ← Nat.pow_add]
        congr 1
        omega
      rw [h2, Nat.add_mul_div_left _ _ (Nat.two_pow_pos m), Nat.add_mul_mod_self_left]
    rw [e]
theorem bitsOf_hit : ∀ (n : Nat) (c : List Nat), Asc n 0 c → ∃ s, s < 2 ^ n ∧ bitsOf n s = c
  | 0, c, h => by
    refine ⟨0, by simp, ?_⟩
    cases c with
    | nil => rfl
    | cons x c => have := h.2 x (List.mem_cons_self ..); omega
  | n + 1, c, h => by
    by_cases hl : n ∈ c
    · have hc : c = c.dropLast ++ [n] := by
        have hne : c ≠ [] := by intro e; subst e; simp at hl
        have h1 := List.dropLast_concat_getLast hne
        have h2 : c.getLast hne = n := by
          obtain ⟨k, hk, e⟩ := List.mem_iff_getElem.1 hl
          rw [List.getLast_eq_getElem]
          by_cases hk2 : k = c.length - 1
          · subst hk2; exact e
          · have a1 := List.pairwise_iff_getElem.1 h.1 k (c.length - 1) hk (by omega) (by omega)
            have a2 := h.2 _ (List.getElem_mem (show c.length - 1 < c.length by omega))
            omega
        rw [h2] at h1
        exact h1.symm
      have ha : Asc n 0 c.dropLast := by
        refine ⟨h.1.sublist (List.dropLast_sublist _), fun x hx => ?_⟩
        have h3 := h.1
        rw [hc, List.pairwise_append] at h3
        exact ⟨Nat.zero_le _, h3.2.2 x hx n (by simp)⟩
      obtain ⟨s, hs, e⟩ := bitsOf_hit n _ ha
      refine ⟨s + 2 ^ n, by rw [Nat.pow_succ]; omega, ?_⟩
      rw [bitsOf_succ, bitsOf_add n n s (Nat.le_refl _), e]
      have : (s + 2 ^ n) / 2 ^ n % 2 = 1 := by
        rw [Nat.add_div_right _ (Nat.two_pow_pos n), Nat.div_eq_of_lt hs]
      rw [if_pos this]
      exact hc.symm
    · have ha : Asc n 0 c := ⟨h.1, fun x hx => by
        have := h.2 x hx
        have hne : x ≠ n := fun e => hl (e ▸ hx)
        omega⟩
      obtain ⟨s, hs, e⟩ := bitsOf_hit n c ha
      refine ⟨s, by rw [Nat.pow_succ]; omega, ?_⟩
      rw [bitsOf_succ, e, Nat.div_eq_of_lt hs]
      simp
/-- The best of the first sets. -/
def bestB (n : Nat) (good : List Nat → Bool) : Nat → Option (List Nat)
  | 0 => none
  | s + 1 => match bestB n good s with
    | none => if good (bitsOf n s) = true then some (bitsOf n s) else none
    | some b => if b.length < (bitsOf n s).length ∨ ((bitsOf n s).length = b.length ∧ nk b < nk (bitsOf n s)) ∨ good (bitsOf n s) = false then some b else some (bitsOf n s)
theorem bestB_ok (n : Nat) (good : List Nat → Bool) : ∀ s, (bestB n good s = none → ∀ t, t < s → good (bitsOf n t) = false) ∧
    (∀ b, bestB n good s = some b → good b = true ∧ Asc n 0 b ∧ ∀ t, t < s → good (bitsOf n t) = true → Bt b (bitsOf n t))
  | 0 => ⟨fun _ t h => by omega, fun b h => by simp [bestB] at h⟩
  | s + 1 => by
    obtain ⟨i1, i2⟩ := bestB_ok n good s
    cases hb : bestB n good s with
    | none =>
      have i1 := i1 hb
      simp only [bestB, hb]
      by_cases hg : good (bitsOf n s) = true
      · rw [if_pos hg]
        refine ⟨fun h => (by cases h), fun b h => ?_⟩
        injection h with h
        subst h
        refine ⟨hg, bitsOf_asc n s, fun t ht hgt => ?_⟩
        by_cases e : t = s
        · subst e; exact .inr ⟨rfl, Int.le_refl _⟩
        · rw [i1 t (by omega)] at hgt; cases hgt
      · rw [if_neg hg]
        refine ⟨fun _ t ht => ?_, fun b h => (by cases h)⟩
        by_cases e : t = s
        · subst e; simpa using hg
        · exact i1 t (by omega)
    | some b0 =>
      obtain ⟨g0, a0, l0⟩ := i2 b0 hb
      simp only [bestB, hb]
      by_cases hc : b0.length < (bitsOf n s).length ∨ ((bitsOf n s).length = b0.length ∧ nk b0 < nk (bitsOf n s)) ∨ good (bitsOf n s) = false
      · rw [if_pos hc]
        refine ⟨fun h => (by cases h), fun b h => ?_⟩
        injection h with h
        subst h
        refine ⟨g0, a0, fun t ht hgt => ?_⟩
        by_cases e : t = s
        · subst e
          unfold Bt
          rcases hc with h | h | h
          · exact .inl h
          · exact .inr ⟨h.1.symm, by omega⟩
          · rw [h] at hgt; cases hgt
        · exact l0 t (by omega) hgt
      · rw [if_neg hc]
        refine ⟨fun h => (by cases h), fun b h => ?_⟩
        injection h with h
        subst h
        have hg : good (bitsOf n s) = true := by
          cases h2 : good (bitsOf n s) with
          | true => rfl
          | false => exact absurd (.inr (.inr h2)) hc
        have hbt : Bt (bitsOf n s) b0 := by
          unfold Bt
          have c1 : ¬ b0.length < (bitsOf n s).length := fun h => hc (.inl h)
          have c2 : ¬ ((bitsOf n s).length = b0.length ∧ nk b0 < nk (bitsOf n s)) := fun h => hc (.inr (.inl h))
          by_cases e : (bitsOf n s).length = b0.length
          · right; exact ⟨e, by by_cases h3 : nk b0 < nk (bitsOf n s); exact absurd ⟨e, h3⟩ c2; omega⟩
          · left; omega
        refine ⟨hg, bitsOf_asc n s, fun t ht hgt => ?_⟩
        by_cases e : t = s
        · subst e; exact .inr ⟨rfl, Int.le_refl _⟩
        · exact hbt.trans (l0 t (by omega) hgt)
theorem bestB_least {n : Nat} {good : List Nat → Bool} (hex : ∃ c, Asc n 0 c ∧ good c = true) : ∃ c, bestB n good (2 ^ n) = some c ∧ Least n good c := by
  obtain ⟨i1, i2⟩ := bestB_ok n good (2 ^ n)
  cases hb : bestB n good (2 ^ n) with
  | none =>
    obtain ⟨c, ha, hg⟩ := hex
    obtain ⟨s, hs, rfl⟩ := bitsOf_hit n c ha
    rw [i1 hb s hs] at hg
    cases hg
  | some b =>
    obtain ⟨g, a, l⟩ := i2 b hb
    refine ⟨b, rfl, g, a, fun d hd hgd => ?_⟩
    obtain ⟨s, hs, rfl⟩ := bitsOf_hit n d hd
    exact l s hs hgd
/-- The first good one of m places. -/
def findC (n : Nat) (good : List Nat → Bool) (m : Nat) : Option (List Nat) := (combs n m 0).find? good
theorem findC_least {n : Nat} (hn : n ≤ 40) {good : List Nat → Bool} {m : Nat} (h0 : ∀ k, k < m → findC n good k = none) {c : List Nat} (h : findC n good m = some c) : Least n good c := by
  obtain ⟨hg, l1, l2, e, hpre⟩ := List.find?_eq_some_iff_append.1 h
  have hmem : c ∈ combs n m 0 := by rw [e]; simp
  obtain ⟨hl, ha⟩ := combs_mem.1 hmem
  refine ⟨hg, ha, fun d hd hgd => ?_⟩
  by_cases hlt : d.length < m
  · have h1 := h0 _ hlt
    have h2 := List.find?_eq_none.1 h1 d (combs_mem.2 ⟨rfl, hd⟩)
    exact absurd hgd h2
  · by_cases hgt : m < d.length
    · exact .inl (by omega)
    · have hdm : d ∈ combs n m 0 := combs_mem.2 ⟨by omega, hd⟩
      refine .inr ⟨by omega, ?_⟩
      have hs := combs_sorted hn m 0
      rw [e] at hdm hs
      rw [List.pairwise_append] at hs
      rcases List.mem_append.1 hdm with h | h
      · have := hpre d h
        simp [hgd] at this
      · rcases List.mem_cons.1 h with rfl | h
        · exact Int.le_refl _
        · exact Int.le_of_lt ((List.pairwise_cons.1 hs.2.1).1 d h)
theorem findC_some {n m : Nat} {good : List Nat → Bool} {c : List Nat} (h : findC n good m = some c) : c.length = m ∧ Asc n 0 c ∧ good c = true := by
  obtain ⟨hg, l1, l2, e, _⟩ := List.find?_eq_some_iff_append.1 h
  have hmem : c ∈ combs n m 0 := by rw [e]; simp
  exact ⟨(combs_mem.1 hmem).1, (combs_mem.1 hmem).2, hg⟩
end Go.Proofs.YtkcnahjgkhgebaaGreat
