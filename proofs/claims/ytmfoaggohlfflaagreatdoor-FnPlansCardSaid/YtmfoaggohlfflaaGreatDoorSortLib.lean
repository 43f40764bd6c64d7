/- The stable sort of rows of numbers by keys: what the library's steps make of a row, and that it is the places one by one. No program in sight. slices.SortStableFunc over []int64 on a row of the call's own of at most 40 numbers, at a closure that compares by keys. slices.SortStableFunc over []int64: the insertion sort of a part of the row, at a closure that compares by keys. slices.SortStableFunc over []int64: merging, where one of the two parts is a single number. slices.SortStableFunc over []int64: the recursive merge, the whole sort. slices.SortStableFunc over []int64 on a row of the call's own that holds 0, 1, .. n-1, n at most 40: it holds the places one by one. -/
import Derived.Test.YtmfoaggohlfflaaGreatDoorWords
import Derived.Test.YtmfoaggohlfflaaGreatDoorLater
import Derived.Test.YtmfoaggohlfflaaGreatDoorBasics
import Derived.RegionTactic
import Derived.BigRegion
/-! ### The stable sort of rows of numbers by keys: what the library's steps make of a row, and that it is the places one by one. No program in sight. -/
namespace Go.Proofs.YtmfoaggohlfflaaGreatDoor
/-- Two places of a row exchanged. -/
def fsw (f : Nat → Int) (i j : Nat) : Nat → Int := fun k => if k = i then f j else if k = j then f i else f k
/-- The order: by keys, then by numbers. -/
def Rk (key : Int → Int) (x y : Int) : Prop := key x < key y ∨ (key x = key y ∧ x < y)
/-- Insertion of the element at a place. -/
def insIn (key : Int → Int) (a : Nat) : Nat → (Nat → Int) → (Nat → Int)
  | 0, f => f
  | j + 1, f => if a < j + 1 ∧ key (f (j + 1)) < key (f j) then insIn key a j (fsw f (j + 1) j) else f
def insRun (key : Int → Int) (a : Nat) : Nat → (Nat → Int) → (Nat → Int)
  | 0, f => f
  | m + 1, f => insIn key a (a + 1 + m) (insRun key a m f)
/-- Searching by halves. -/
def bsr (p : Nat → Bool) (i j : Nat) : Nat :=
  if h : i < j then (if p ((i + j) / 2) = true then bsr p ((i + j) / 2 + 1) j else bsr p i ((i + j) / 2)) else i
  termination_by j - i
  decreasing_by all_goals omega
def mvUp (a : Nat) : Nat → (Nat → Int) → (Nat → Int)
  | 0, f => f
  | t + 1, f => fsw (mvUp a t f) (a + t) (a + t + 1)
def mvDn (m : Nat) : Nat → (Nat → Int) → (Nat → Int)
  | 0, f => f
  | t + 1, f => fsw (mvDn m t f) (m - t) (m - t - 1)
def swR (a b : Nat) : Nat → (Nat → Int) → (Nat → Int)
  | 0, f => f
  | t + 1, f => fsw (swR a b t f) (a + t) (b + t)
def rot (m i j : Nat) (f : Nat → Int) : Nat → Int :=
  if _h : i = j ∨ i = 0 ∨ j = 0 then swR (m - i) m i f
  else if j < i then rot m (i - j) j (swR (m - i) m j f)
  else rot m i (j - i) (swR (m - i) (m + j - i) i f)
  termination_by i + j
  decreasing_by all_goals omega
def symS (a m b : Nat) : Nat × Nat := if (a + b) / 2 < m then ((a + b) / 2 + m - b, (a + b) / 2) else (a, m)
def symP (key : Int → Int) (f : Nat → Int) (n c : Nat) : Bool := !decide (key (f (n - 1 - c)) < key (f c))
def symT (key : Int → Int) (f : Nat → Int) (a m b : Nat) : Nat := bsr (symP key f ((a + b) / 2 + m)) (symS a m b).1 (symS a m b).2
def sym (key : Int → Int) : Nat → Nat → Nat → Nat → (Nat → Int) → (Nat → Int)
  | 0, _, _, _, f => f
  | t + 1, a, m, b, f =>
    if m - a = 1 then mvUp a (bsr (fun h => decide (key (f h) < key (f a))) m b - 1 - a) f
    else if b - m = 1 then mvDn m (m - bsr (fun h => !decide (key (f m) < key (f h))) a m) f
    else
      let mid := (a + b) / 2
      let start := symT key f a m b
      let en := mid + m - start
      let f1 := if start < m ∧ m < en then rot m (m - start) (en - m) f else f
      let f2 := if a < start ∧ start < mid then sym key t a start mid f1 else f1
      if mid < en ∧ en < b then sym key t mid en b f2 else f2
def stab (key : Int → Int) (n : Nat) (f : Nat → Int) : Nat → Int :=
  if n ≤ 20 then insRun key 0 (n - 1) f else sym key n 0 20 n (insRun key 20 (n - 21) (insRun key 0 19 f))

/-! ### what they do -/
section
variable {key : Int → Int} {f : Nat → Int}
theorem Rk.trans {x y z : Int} (h : Rk key x y) (k : Rk key y z) : Rk key x z := by unfold Rk at *; omega
theorem Rk.asymm {x y : Int} (h : Rk key x y) (k : Rk key y x) : False := by unfold Rk at *; omega
theorem Rk.of_not {x y : Int} (h : ¬ key y < key x) (k : x < y) : Rk key x y := by unfold Rk; omega
theorem Rk.of_lt {x y : Int} (h : key x < key y) : Rk key x y := .inl h
def Srt (key : Int → Int) (f : Nat → Int) (a b : Nat) : Prop := ∀ i j, a ≤ i → i < j → j < b → Rk key (f i) (f j)
def Lft (f : Nat → Int) (a m b : Nat) : Prop := ∀ i j, a ≤ i → i < m → m ≤ j → j < b → f i < f j
/-- g holds on [a, b) what f holds there, and elsewhere the same. -/
structure On (f g : Nat → Int) (a b : Nat) : Prop where
  out : ∀ k, k < a ∨ b ≤ k → g k = f k
  mem : ∀ k, a ≤ k → k < b → ∃ j, a ≤ j ∧ j < b ∧ g k = f j
theorem On.refl (f : Nat → Int) (a b : Nat) : On f f a b := ⟨fun _ _ => rfl, fun k h1 h2 => ⟨k, h1, h2, rfl⟩⟩
theorem On.trans {f g h : Nat → Int} {a b : Nat} (x : On f g a b) (y : On g h a b) : On f h a b :=
  ⟨fun k hk => (y.out k hk).trans (x.out k hk), fun k h1 h2 => by
    obtain ⟨j, hj1, hj2, e⟩ := y.mem k h1 h2
    obtain ⟨l, hl1, hl2, e2⟩ := x.mem j hj1 hj2
    exact ⟨l, hl1, hl2, e.trans e2⟩⟩
theorem On.mono {f g : Nat → Int} {a b c d : Nat} (x : On f g a b) (h1 : c ≤ a) (h2 : b ≤ d) : On f g c d :=
  ⟨fun k hk => x.out k (by omega), fun k hk1 hk2 => by
    by_cases h : a ≤ k ∧ k < b
    · obtain ⟨j, hj1, hj2, e⟩ := x.mem k h.1 h.2
      exact ⟨j, by omega, by omega, e⟩
    · exact ⟨k, hk1, hk2, x.out k (by omega)⟩⟩

theorem mvUp_eq (a t : Nat) (f : Nat → Int) (k : Nat) : mvUp a t f k = if a ≤ k ∧ k < a + t then f (k + 1) else if k = a + t then f a else f k := by
  induction t generalizing k with
  | zero => simp only [mvUp]; split <;> (try split) <;> first | rfl | (congr 1 <;> omega) | omega
  | succ t ih =>
    simp only [mvUp, fsw, ih]
    repeat' split
    all_goals first | rfl | (congr 1 <;> omega) | omega | exact absurd trivial ‹¬True›
theorem mvDn_eq (m t : Nat) (ht : t ≤ m) (f : Nat → Int) (k : Nat) : mvDn m t f k = if m - t < k ∧ k ≤ m then f (k - 1) else if k = m - t then f m else f k := by
  induction t generalizing k with
  | zero => simp only [mvDn]; repeat' split
            all_goals first | rfl | (congr 1 <;> omega) | omega | exact absurd trivial ‹¬True›
  | succ t ih =>
    have ih := ih (by omega)
    simp only [mvDn, fsw, ih]
    repeat' split
    all_goals first | rfl | (congr 1 <;> omega) | omega | exact absurd trivial ‹¬True›
theorem swR_eq (a b t : Nat) (h : a + t ≤ b ∨ b + t ≤ a) (f : Nat → Int) (k : Nat) : swR a b t f k = if a ≤ k ∧ k < a + t then f (b + (k - a)) else if b ≤ k ∧ k < b + t then f (a + (k - b)) else f k := by
  induction t generalizing k with
  | zero => simp only [swR]; repeat' split
            all_goals first | rfl | (congr 1 <;> omega) | omega | exact absurd trivial ‹¬True›
  | succ t ih =>
    have ih := ih (by omega)
    simp only [swR, fsw, ih]
    repeat' split
    all_goals first | rfl | (congr 1 <;> omega) | omega | exact absurd trivial ‹¬True›
theorem rot_eq : ∀ (s m i j : Nat) (_ : i + j ≤ s) (_ : i ≤ m) (_ : 0 < i) (_ : 0 < j) (f : Nat → Int) (k : Nat),
    rot m i j f k = if m - i ≤ k ∧ k < m - i + j then f (k + i) else if m - i + j ≤ k ∧ k < m + j then f (k - j) else f k := by
  intro s
  induction s with
  | zero => intro m i j h1 h2 h3; omega
  | succ s ih =>
    intro m i j hs hm hi hj f k
    rw [rot]
    by_cases he : i = j ∨ i = 0 ∨ j = 0
    · rw [dif_pos he, swR_eq _ _ _ (by omega)]
      repeat' split
      all_goals first | rfl | (congr 1 <;> omega) | omega | exact absurd trivial ‹¬True›
    · rw [dif_neg he]
      by_cases hlt : j < i
      · rw [if_pos hlt, ih m (i - j) j (by omega) (by omega) (by omega) hj]
        simp only [swR_eq (m - i) m j (by omega)]
        repeat' split
        all_goals first | rfl | (congr 1 <;> omega) | omega | exact absurd trivial ‹¬True›
      · rw [if_neg hlt, ih m i (j - i) (by omega) hm hi (by omega)]
        simp only [swR_eq (m - i) (m + j - i) i (by omega)]
        repeat' split
        all_goals first | rfl | (congr 1 <;> omega) | omega | exact absurd trivial ‹¬True›
theorem bsr_ok (p : Nat → Bool) : ∀ (s i j : Nat), j - i ≤ s → i ≤ j → i ≤ bsr p i j ∧ bsr p i j ≤ j ∧ (bsr p i j = i ∨ p (bsr p i j - 1) = true) ∧ (bsr p i j = j ∨ p (bsr p i j) = false) := by
  intro s
  induction s with
  | zero =>
    intro i j h1 h2
    have : i = j := by omega
    subst this
    rw [bsr, dif_neg (by omega)]
    exact ⟨Nat.le_refl _, Nat.le_refl _, .inl rfl, .inl rfl⟩
  | succ s ih =>
    intro i j h1 h2
    rw [bsr]
    by_cases h : i < j
    · rw [dif_pos h]
      by_cases hp : p ((i + j) / 2) = true
      · rw [if_pos hp]
        obtain ⟨a1, a2, a3, a4⟩ := ih ((i + j) / 2 + 1) j (by omega) (by omega)
        refine ⟨by omega, a2, ?_, a4⟩
        rcases a3 with a3 | a3
        · right; rw [a3]; simpa using hp
        · exact .inr a3
      · rw [if_neg hp]
        obtain ⟨a1, a2, a3, a4⟩ := ih i ((i + j) / 2) (by omega) (by omega)
        refine ⟨a1, by omega, a3, ?_⟩
        rcases a4 with a4 | a4
        · right; rw [a4]; simpa using hp
        · exact .inr a4
    · rw [dif_neg h]
      exact ⟨Nat.le_refl _, h2, .inl rfl, .inl (by omega)⟩

/-- Inserting the element at m into the sorted row [a, m), at place p. -/
theorem srt_insert {g : Nat → Int} {a m p : Nat} (hs : Srt key f a m) (hl : Lft f a m (m + 1)) (h1 : a ≤ p) (h2 : p ≤ m)
    (hlo : p = a ∨ ¬ key (f m) < key (f (p - 1))) (hhi : p = m ∨ key (f m) < key (f p))
    (hg : ∀ k, g k = if p < k ∧ k ≤ m then f (k - 1) else if k = p then f m else f k) : Srt key g a (m + 1) ∧ On f g a (m + 1) := by
  refine ⟨?_, ?_, ?_⟩
  · have hlo' : ∀ q, a ≤ q → q < p → Rk key (f q) (f m) := by
      intro q hq1 hq2
      have hr : Rk key (f (p - 1)) (f m) := Rk.of_not (by rcases hlo with h | h; omega; exact h) (hl (p - 1) m (by omega) (by omega) (by omega) (by omega))
      by_cases e : q = p - 1
      · rw [e]; exact hr
      · exact (hs q (p - 1) hq1 (by omega) (by omega)).trans hr
    have hhi' : ∀ q, p ≤ q → q < m → Rk key (f m) (f q) := by
      intro q hq1 hq2
      have hr : Rk key (f m) (f p) := Rk.of_lt (by rcases hhi with h | h; omega; exact h)
      by_cases e : q = p
      · rw [e]; exact hr
      · exact hr.trans (hs p q h1 (by omega) hq2)
    intro i j hi hij hj
    rw [hg i, hg j]
    repeat' split
    all_goals first | (exfalso; omega) | exact hs _ _ (by omega) (by omega) (by omega) | exact hlo' _ (by omega) (by omega) | exact hhi' _ (by omega) (by omega)
  · intro k hk
    rw [hg k, if_neg (by omega), if_neg (by omega)]
  · intro k hk1 hk2
    rw [hg k]
    repeat' split
    · exact ⟨k - 1, by omega, by omega, rfl⟩
    · exact ⟨m, by omega, by omega, rfl⟩
    · exact ⟨k, hk1, hk2, rfl⟩
theorem insIn_ok (a : Nat) : ∀ (j : Nat) (f : Nat → Int), a ≤ j → ∃ p, a ≤ p ∧ p ≤ j ∧ (p = a ∨ ¬ key (f j) < key (f (p - 1))) ∧ (p = j ∨ key (f j) < key (f p)) ∧
    ∀ k, insIn key a j f k = if p < k ∧ k ≤ j then f (k - 1) else if k = p then f j else f k := by
  intro j
  induction j with
  | zero =>
    intro f h
    refine ⟨0, h, Nat.le_refl _, .inl (by omega), .inl rfl, fun k => ?_⟩
    simp only [insIn]
    repeat' split
    all_goals first | rfl | (congr 1 <;> omega) | omega | exact absurd trivial ‹¬True›
  | succ j ih =>
    intro f h
    simp only [insIn]
    by_cases hc : a < j + 1 ∧ key (f (j + 1)) < key (f j)
    · rw [if_pos hc]
      obtain ⟨p, p1, p2, p3, p4, p5⟩ := ih (fsw f (j + 1) j) (by omega)
      have ej : fsw f (j + 1) j j = f (j + 1) := by unfold fsw; rw [if_neg (by omega), if_pos rfl]
      have eo : ∀ q, q < j → fsw f (j + 1) j q = f q := fun q hq => by unfold fsw; rw [if_neg (by omega), if_neg (by omega)]
      refine ⟨p, p1, by omega, ?_, ?_, ?_⟩
      · rcases p3 with h3 | h3
        · exact .inl h3
        · by_cases hp : p = a
          · exact .inl hp
          · right; rw [ej, eo _ (by omega)] at h3; exact h3
      · right
        by_cases hp : p = j
        · rw [hp]; exact hc.2
        · rcases p4 with h4 | h4
          · exact absurd h4 hp
          · rw [ej, eo _ (by omega)] at h4; exact h4
      · intro k
        rw [p5 k]
        simp only [fsw]
        repeat' split
        all_goals first | rfl | (congr 1 <;> omega) | omega | exact absurd trivial ‹¬True›
    · rw [if_neg hc]
      refine ⟨j + 1, h, Nat.le_refl _, ?_, .inl rfl, ?_⟩
      · by_cases h0 : a < j + 1
        · right; simp only [Nat.add_sub_cancel]; exact fun h2 => hc ⟨h0, h2⟩
        · left; omega
      · intro k
        repeat' split
        all_goals first | rfl | (congr 1 <;> omega) | omega | exact absurd trivial ‹¬True›
theorem insRun_ok (a : Nat) (f : Nat → Int) : ∀ m b, a + 1 + m ≤ b → (∀ i j, a ≤ i → i < j → j < b → f i < f j) → Srt key (insRun key a m f) a (a + 1 + m) ∧ On f (insRun key a m f) a (a + 1 + m) := by
  intro m
  induction m with
  | zero =>
    intro b _ _
    exact ⟨fun i j h1 h2 h3 => by omega, On.refl _ _ _⟩
  | succ m ih =>
    intro b hb hf
    obtain ⟨h1, h2⟩ := ih b (by omega) hf
    simp only [insRun]
    obtain ⟨p, p1, p2, p3, p4, p5⟩ := insIn_ok (key := key) a (a + 1 + m) (insRun key a m f) (by omega)
    have hl : Lft (insRun key a m f) a (a + 1 + m) (a + 1 + m + 1) := by
      intro i j hi1 hi2 hj1 hj2
      obtain ⟨q, q1, q2, e⟩ := h2.mem i hi1 hi2
      rw [e, h2.out j (by omega)]
      exact hf _ _ q1 (by omega) (by omega)
    obtain ⟨r1, r2⟩ := srt_insert h1 hl p1 p2 p3 p4 p5
    exact ⟨r1, (h2.mono (Nat.le_refl _) (by omega)).trans r2⟩
theorem symS_ok {a m b : Nat} (h1 : a < m) (h2 : m < b) : a ≤ (symS a m b).1 ∧ (symS a m b).1 ≤ (symS a m b).2 ∧ (symS a m b).2 ≤ m ∧ (symS a m b).2 ≤ (a + b) / 2 ∧
    ((symS a m b).1 = a ∨ (a + b) / 2 + m - (symS a m b).1 = b) ∧ ((symS a m b).2 = m ∨ (symS a m b).2 = (a + b) / 2) ∧ m ≤ (a + b) / 2 + m - (symS a m b).2 ∧ (a + b) / 2 + m - (symS a m b).1 ≤ b := by
  unfold symS
  split
  all_goals
    refine ⟨?_, ?_, ?_, ?_, ?_, ?_, ?_, ?_⟩
    all_goals first | (dsimp only; omega) | exact .inr rfl | exact .inl rfl
theorem symT_ok {a m b : Nat} (h1 : a < m) (h2 : m < b) (f : Nat → Int) : (symS a m b).1 ≤ symT key f a m b ∧ symT key f a m b ≤ (symS a m b).2 ∧
    (symT key f a m b = (symS a m b).1 ∨ ¬ key (f ((a + b) / 2 + m - symT key f a m b)) < key (f (symT key f a m b - 1))) ∧
    (symT key f a m b = (symS a m b).2 ∨ key (f ((a + b) / 2 + m - symT key f a m b - 1)) < key (f (symT key f a m b))) := by
  have hs := symS_ok h1 h2
  obtain ⟨q1, q2, q3, q4⟩ := bsr_ok (symP key f ((a + b) / 2 + m)) _ (symS a m b).1 (symS a m b).2 (Nat.le_refl _) hs.2.1
  change _ ≤ symT key f a m b at q1
  change symT key f a m b ≤ _ at q2
  change symT key f a m b = _ ∨ symP key f ((a + b) / 2 + m) (symT key f a m b - 1) = true at q3
  change symT key f a m b = _ ∨ symP key f ((a + b) / 2 + m) (symT key f a m b) = false at q4
  refine ⟨q1, q2, ?_, ?_⟩
  · by_cases e : symT key f a m b = (symS a m b).1
    · exact .inl e
    · right
      rcases q3 with q3 | q3
      · exact absurd q3 e
      · unfold symP at q3
        rw [show (a + b) / 2 + m - 1 - (symT key f a m b - 1) = (a + b) / 2 + m - symT key f a m b by omega] at q3
        simpa using q3
  · rcases q4 with q4 | q4
    · exact .inl q4
    · right
      unfold symP at q4
      rw [show (a + b) / 2 + m - 1 - symT key f a m b = (a + b) / 2 + m - symT key f a m b - 1 by omega] at q4
      simpa using q4
set_option maxHeartbeats 4000000 in
theorem sym_ok : ∀ (t a m b : Nat) (f : Nat → Int), a < m → m < b → b - a ≤ t → Srt key f a m → Srt key f m b → Lft f a m b →
    Srt key (sym key t a m b f) a b ∧ On f (sym key t a m b f) a b := by
  intro t
  induction t with
  | zero => intro a m b f h1 h2 h3; omega
  | succ t ih =>
    intro a m b f ham hmb hb hs1 hs2 hl
    simp only [sym]
    by_cases c1 : m - a = 1
    · rw [if_pos c1]
      obtain rfl : m = a + 1 := by omega
      obtain ⟨q1, q2, q3, q4⟩ := bsr_ok (fun h => decide (key (f h) < key (f a))) _ (a + 1) b (Nat.le_refl _) (by omega)
      obtain ⟨s, hs⟩ : ∃ s, s = bsr (fun h => decide (key (f h) < key (f a))) (a + 1) b := ⟨_, rfl⟩
      rw [← hs] at q1 q2 q3 q4 ⊢
      simp only [decide_eq_true_eq, decide_eq_false_iff_not] at q3 q4
      have hlo : ∀ q, a + 1 ≤ q → q < s → Rk key (f q) (f a) := by
        intro q hq1 hq2
        have hr : Rk key (f (s - 1)) (f a) := Rk.of_lt (by rcases q3 with h | h; omega; exact h)
        by_cases e : q = s - 1
        · rw [e]; exact hr
        · exact (hs2 q (s - 1) hq1 (by omega) (by omega)).trans hr
      have hhi : ∀ q, s ≤ q → q < b → Rk key (f a) (f q) := by
        intro q hq1 hq2
        have hr : Rk key (f a) (f s) := Rk.of_not (by rcases q4 with h | h; omega; exact h) (hl a s (by omega) (by omega) (by omega) (by omega))
        by_cases e : q = s
        · rw [e]; exact hr
        · exact hr.trans (hs2 s q q1 (by omega) hq2)
      have hg := mvUp_eq a (s - 1 - a) f
      refine ⟨?_, ?_, ?_⟩
      · intro i j hi hij hj
        rw [hg i, hg j]
        repeat' split
        all_goals first | (exfalso; omega) | exact hs2 _ _ (by omega) (by omega) (by omega) | exact hlo _ (by omega) (by omega) | exact hhi _ (by omega) (by omega)
      · intro k hk
        rw [hg k, if_neg (by omega), if_neg (by omega)]
      · intro k hk1 hk2
        rw [hg k]
        repeat' split
        · exact ⟨k + 1, by omega, by omega, rfl⟩
        · exact ⟨a, by omega, by omega, rfl⟩
        · exact ⟨k, hk1, hk2, rfl⟩
    · rw [if_neg c1]
      by_cases c2 : b - m = 1
      · rw [if_pos c2]
        obtain rfl : b = m + 1 := by omega
        obtain ⟨q1, q2, q3, q4⟩ := bsr_ok (fun h => !decide (key (f m) < key (f h))) _ a m (Nat.le_refl _) (by omega)
        obtain ⟨s, hs⟩ : ∃ s, s = bsr (fun h => !decide (key (f m) < key (f h))) a m := ⟨_, rfl⟩
        rw [← hs] at q1 q2 q3 q4 ⊢
        refine srt_insert hs1 hl q1 q2 (by simpa using q3) (by simpa using q4) ?_
        intro k
        rw [mvDn_eq _ _ (by omega), show m - (m - s) = s by omega]
      · rw [if_neg c2]
        have hS := symS_ok ham hmb
        obtain ⟨t1, t2, t3, t4⟩ := symT_ok (key := key) ham hmb f
        obtain ⟨s, hs⟩ : ∃ s, s = symT key f a m b := ⟨_, rfl⟩
        rw [← hs] at t1 t2 t3 t4 ⊢
        obtain ⟨mid, hmid⟩ : ∃ mid, mid = (a + b) / 2 := ⟨_, rfl⟩
        have hm1 : mid - a ≤ t := by omega
        have hm2 : b - mid ≤ t := by omega
        rw [← hmid] at hS t3 t4 ⊢
        obtain ⟨en, hen⟩ : ∃ en, en = mid + m - s := ⟨_, rfl⟩
        rw [← hen] at t3 t4 ⊢
        generalize (symS a m b).1 = s0 at hS t1 t3
        generalize (symS a m b).2 = r0 at hS t2 t4
        obtain ⟨f1, hf1⟩ : ∃ f1, f1 = if s < m ∧ m < en then rot m (m - s) (en - m) f else f := ⟨_, rfl⟩
        rw [← hf1]
        have e1 : ∀ k, f1 k = if s ≤ k ∧ k < mid then f (k + (m - s)) else if mid ≤ k ∧ k < en then f (k - (en - m)) else f k := by
          intro k
          rw [hf1]
          split
          · rw [rot_eq _ m (m - s) (en - m) (Nat.le_refl _) (by omega) (by omega) (by omega)]
            repeat' split
            all_goals first | rfl | (congr 1 <;> omega) | omega | exact absurd trivial ‹¬True›
          · repeat' split
            all_goals first | rfl | (congr 1 <;> omega) | omega | exact absurd trivial ‹¬True›
        have o1 : On f f1 a b := by
          refine ⟨?_, ?_⟩
          · intro k hk
            rw [e1 k, if_neg (by omega), if_neg (by omega)]
          · intro k hk1 hk2
            rw [e1 k]
            repeat' split
            · exact ⟨k + (m - s), by omega, by omega, rfl⟩
            · exact ⟨k - (en - m), by omega, by omega, rfl⟩
            · exact ⟨k, hk1, hk2, rfl⟩
        have cross : ∀ p q, a ≤ p → p < mid → mid ≤ q → q < b → Rk key (f1 p) (f1 q) := by
          intro p q hp1 hp2 hq1 hq2
          have x1 : ∀ p q, a ≤ p → p < s → en ≤ q → q < b → Rk key (f p) (f q) := by
            intro p q hp1 hp2 hq1 hq2
            have hr : Rk key (f (s - 1)) (f en) := Rk.of_not (by rcases t3 with h | h; omega; exact h) (hl _ _ (by omega) (by omega) (by omega) (by omega))
            have hr2 : Rk key (f p) (f en) := by
              by_cases e : p = s - 1
              · rw [e]; exact hr
              · exact (hs1 p (s - 1) hp1 (by omega) (by omega)).trans hr
            by_cases e : q = en
            · rw [e]; exact hr2
            · exact hr2.trans (hs2 en q (by omega) (by omega) hq2)
          have x2 : ∀ p q, m ≤ p → p < en → s ≤ q → q < m → Rk key (f p) (f q) := by
            intro p q hp1 hp2 hq1 hq2
            have hr : Rk key (f (en - 1)) (f s) := Rk.of_lt (by rcases t4 with h | h; omega; exact h)
            have hr2 : Rk key (f p) (f s) := by
              by_cases e : p = en - 1
              · rw [e]; exact hr
              · exact (hs2 p (en - 1) hp1 (by omega) (by omega)).trans hr
            by_cases e : q = s
            · rw [e]; exact hr2
            · exact hr2.trans (hs1 s q (by omega) (by omega) hq2)
          rw [e1 p, e1 q]
          repeat' split
          all_goals first | (exfalso; omega) | exact hs1 _ _ (by omega) (by omega) (by omega) | exact hs2 _ _ (by omega) (by omega) (by omega) | exact x1 _ _ (by omega) (by omega) (by omega) (by omega) | exact x2 _ _ (by omega) (by omega) (by omega) (by omega)
        obtain ⟨f2, hf2⟩ : ∃ f2, f2 = if a < s ∧ s < mid then sym key t a s mid f1 else f1 := ⟨_, rfl⟩
        rw [← hf2]
        have r2 : Srt key f2 a mid ∧ On f1 f2 a mid := by
          rw [hf2]
          split
          · rename_i hc
            refine ih a s mid f1 hc.1 hc.2 hm1 ?_ ?_ ?_
            · intro i j hi hij hj
              rw [e1 i, e1 j, if_neg (by omega), if_neg (by omega), if_neg (by omega), if_neg (by omega)]
              exact hs1 _ _ hi hij (by omega)
            · intro i j hi hij hj
              rw [e1 i, e1 j, if_pos (by omega), if_pos (by omega)]
              exact hs2 _ _ (by omega) (by omega) (by omega)
            · intro i j hi1 hi2 hj1 hj2
              rw [e1 i, e1 j, if_neg (by omega), if_neg (by omega), if_pos (by omega)]
              exact hl _ _ (by omega) (by omega) (by omega) (by omega)
          · rename_i hc
            refine ⟨?_, On.refl _ _ _⟩
            intro i j hi hij hj
            rw [e1 i, e1 j]
            repeat' split
            all_goals first | (exfalso; omega) | exact hs1 _ _ (by omega) (by omega) (by omega) | exact hs2 _ _ (by omega) (by omega) (by omega)
        have u2 : ∀ k, mid ≤ k → f2 k = f1 k := fun k hk => r2.2.out k (by omega)
        obtain ⟨f3, hf3⟩ : ∃ f3, f3 = if mid < en ∧ en < b then sym key t mid en b f2 else f2 := ⟨_, rfl⟩
        rw [← hf3]
        have r3 : Srt key f3 mid b ∧ On f2 f3 mid b := by
          rw [hf3]
          split
          · rename_i hc
            refine ih mid en b f2 hc.1 hc.2 hm2 ?_ ?_ ?_
            · intro i j hi hij hj
              rw [u2 i (by omega), u2 j (by omega), e1 i, e1 j, if_neg (by omega), if_pos (by omega), if_neg (by omega), if_pos (by omega)]
              exact hs1 _ _ (by omega) (by omega) (by omega)
            · intro i j hi hij hj
              rw [u2 i (by omega), u2 j (by omega), e1 i, e1 j, if_neg (by omega), if_neg (by omega), if_neg (by omega), if_neg (by omega)]
              exact hs2 _ _ (by omega) (by omega) (by omega)
            · intro i j hi1 hi2 hj1 hj2
              rw [u2 i (by omega), u2 j (by omega), e1 i, e1 j, if_neg (by omega), if_pos (by omega), if_neg (by omega), if_neg (by omega)]
              exact hl _ _ (by omega) (by omega) (by omega) (by omega)
          · rename_i hc
            refine ⟨?_, On.refl _ _ _⟩
            intro i j hi hij hj
            rw [u2 i (by omega), u2 j (by omega), e1 i, e1 j]
            repeat' split
            all_goals first | (exfalso; omega) | exact hs1 _ _ (by omega) (by omega) (by omega) | exact hs2 _ _ (by omega) (by omega) (by omega)
        refine ⟨?_, (o1.trans (r2.2.mono (Nat.le_refl _) (by omega))).trans (r3.2.mono (by omega) (Nat.le_refl _))⟩
        intro i j hi hij hj
        by_cases hjm : j < mid
        · rw [r3.2.out i (by omega), r3.2.out j (by omega)]
          exact r2.1 _ _ hi hij hjm
        · by_cases him : i < mid
          · rw [r3.2.out i (by omega)]
            obtain ⟨p, p1, p2, ep⟩ := r2.2.mem i hi him
            obtain ⟨q, q1, q2, eq⟩ := r3.2.mem j (by omega) hj
            rw [ep, eq, u2 q q1]
            exact cross _ _ p1 p2 q1 q2
          · exact r3.1 _ _ (by omega) hij hj
theorem stab_ok (n : Nat) (f : Nat → Int) (hf : ∀ i j, i < j → j < n → f i < f j) : Srt key (stab key n f) 0 n := by
  unfold stab
  split
  · rename_i h
    by_cases h0 : n = 0
    · subst h0; intro i j _ _ h; omega
    · have := (insRun_ok (key := key) 0 f (n - 1) n (by omega) (fun i j _ h1 h2 => hf i j h1 h2)).1
      rwa [show 0 + 1 + (n - 1) = n by omega] at this
  · rename_i h
    obtain ⟨a1, a2⟩ := insRun_ok (key := key) 0 f 19 n (by omega) (fun i j _ h1 h2 => hf i j h1 h2)
    obtain ⟨b1, b2⟩ := insRun_ok (key := key) 20 (insRun key 0 19 f) (n - 21) n (by omega) (fun i j h0 h1 h2 => by rw [a2.out i (by omega), a2.out j (by omega)]; exact hf i j h1 h2)
    rw [show 20 + 1 + (n - 21) = n by omega] at b1 b2
    refine (sym_ok n 0 20 n _ (by omega) (by omega) (by omega) ?_ b1 ?_).1
    · intro i j h1 h2 h3
      rw [b2.out i (by omega), b2.out j (by omega)]
      exact a1 i j h1 h2 (by omega)
    · intro i j h1 h2 h3 h4
      obtain ⟨q, q1, q2, e⟩ := b2.mem j h3 h4
      obtain ⟨p, p1, p2, e'⟩ := a2.mem i (by omega) (by omega)
      rw [b2.out i (by omega), e', e, a2.out q (by omega)]
      exact hf _ _ (by omega) q2
end

/-! ### the same elements -/
def rowF (f : Nat → Int) (n : Nat) : List Int := (List.range n).map f
theorem rowF_length (f : Nat → Int) (n : Nat) : (rowF f n).length = n := by simp [rowF]
theorem rowF_get (f : Nat → Int) (n k : Nat) (h : k < n) : (rowF f n)[k]'(by rw [rowF_length]; exact h) = f k := by simp [rowF]
theorem rowF_fsw (f : Nat → Int) (n i j : Nat) : rowF (fsw f i j) n = ((rowF f n).set j (f i)).set i (f j) := by
  apply List.ext_getElem
  · simp [rowF]
  · intro k h1 h2
    rw [rowF_length] at h1
    rw [rowF_get _ _ _ h1]
    simp only [List.getElem_set, rowF_get _ _ _ h1, fsw]
    repeat' split
    all_goals first | rfl | omega
theorem perm_fsw (f : Nat → Int) (n i j : Nat) (hi : i < n) (hj : j < n) : (rowF (fsw f i j) n).Perm (rowF f n) := by
  have h := @List.set_set_perm _ (rowF f n) j i (by rw [rowF_length]; exact hj) (by rw [rowF_length]; exact hi)
  rw [rowF_get _ _ _ hi, rowF_get _ _ _ hj] at h
  rw [rowF_fsw]
  exact h
section
variable {key : Int → Int} {n : Nat}
theorem perm_insIn (a : Nat) : ∀ (j : Nat) (f : Nat → Int), j < n → (rowF (insIn key a j f) n).Perm (rowF f n)
  | 0, f, _ => List.Perm.refl _
  | j + 1, f, h => by
    simp only [insIn]
    split
    · exact (perm_insIn a j _ (by omega)).trans (perm_fsw f n (j + 1) j h (by omega))
    · exact List.Perm.refl _
theorem perm_insRun (a : Nat) (f : Nat → Int) : ∀ m, a + m < n ∨ m = 0 → (rowF (insRun key a m f) n).Perm (rowF f n)
  | 0, _ => List.Perm.refl _
  | m + 1, h => by
    simp only [insRun]
    exact (perm_insIn a (a + 1 + m) _ (by omega)).trans (perm_insRun a f m (by omega))
theorem perm_mvUp (a : Nat) (f : Nat → Int) : ∀ t, a + t < n ∨ t = 0 → (rowF (mvUp a t f) n).Perm (rowF f n)
  | 0, _ => List.Perm.refl _
  | t + 1, h => (perm_fsw _ n (a + t) (a + t + 1) (by omega) (by omega)).trans (perm_mvUp a f t (by omega))
theorem perm_mvDn (m : Nat) (f : Nat → Int) : ∀ t, m < n → (rowF (mvDn m t f) n).Perm (rowF f n)
  | 0, _ => List.Perm.refl _
  | t + 1, h => (perm_fsw _ n (m - t) (m - t - 1) (by omega) (by omega)).trans (perm_mvDn m f t h)
theorem perm_swR (a b : Nat) (f : Nat → Int) : ∀ t, (a + t ≤ n ∧ b + t ≤ n) → (rowF (swR a b t f) n).Perm (rowF f n)
  | 0, _ => List.Perm.refl _
  | t + 1, h => (perm_fsw _ n (a + t) (b + t) (by omega) (by omega)).trans (perm_swR a b f t (by omega))
theorem perm_rot : ∀ (s m i j : Nat) (f : Nat → Int), i + j ≤ s → i ≤ m → m + j ≤ n → 0 < i → 0 < j → (rowF (rot m i j f) n).Perm (rowF f n) := by
  intro s
  induction s with
  | zero => intro m i j f h1 h2 h3 h4; omega
  | succ s ih =>
    intro m i j f h1 h2 h3 h4 h5
    rw [rot]
    split
    · exact perm_swR _ _ _ _ (by omega)
    · split
      · exact (ih m (i - j) j _ (by omega) (by omega) h3 (by omega) h5).trans (perm_swR _ _ _ _ (by omega))
      · exact (ih m i (j - i) _ (by omega) h2 (by omega) h4 (by omega)).trans (perm_swR _ _ _ _ (by omega))
theorem perm_sym : ∀ (t a m b : Nat) (f : Nat → Int), a < m → m < b → b ≤ n → (rowF (sym key t a m b f) n).Perm (rowF f n) := by
  intro t
  induction t with
  | zero => intro a m b f _ _ _; exact List.Perm.refl _
  | succ t ih =>
    intro a m b f ham hmb hb
    simp only [sym]
    split
    · have := (bsr_ok (fun h => decide (key (f h) < key (f a))) _ m b (Nat.le_refl _) (by omega)).2.1
      exact perm_mvUp _ _ _ (by omega)
    · split
      · exact perm_mvDn _ _ _ (by omega)
      · have hS := symS_ok ham hmb
        obtain ⟨t1, t2, _, _⟩ := symT_ok (key := key) ham hmb f
        obtain ⟨s, hs⟩ : ∃ s, s = symT key f a m b := ⟨_, rfl⟩
        rw [← hs] at t1 t2 ⊢
        generalize (symS a m b).1 = s0 at hS t1
        generalize (symS a m b).2 = r0 at hS t2
        obtain ⟨f1, hf1⟩ : ∃ f1, f1 = if s < m ∧ m < (a + b) / 2 + m - s then rot m (m - s) ((a + b) / 2 + m - s - m) f else f := ⟨_, rfl⟩
        rw [← hf1]
        have p1 : (rowF f1 n).Perm (rowF f n) := by
          rw [hf1]
          split
          · exact perm_rot _ _ _ _ _ (Nat.le_refl _) (by omega) (by omega) (by omega) (by omega)
          · exact List.Perm.refl _
        obtain ⟨f2, hf2⟩ : ∃ f2, f2 = if a < s ∧ s < (a + b) / 2 then sym key t a s ((a + b) / 2) f1 else f1 := ⟨_, rfl⟩
        rw [← hf2]
        have p2 : (rowF f2 n).Perm (rowF f1 n) := by
          rw [hf2]
          split
          · rename_i h; exact ih _ _ _ _ h.1 h.2 (by omega)
          · exact List.Perm.refl _
        refine List.Perm.trans ?_ (p2.trans p1)
        split
        · rename_i h; exact ih _ _ _ _ h.1 h.2 hb
        · exact List.Perm.refl _
theorem perm_stab (f : Nat → Int) : (rowF (stab key n f) n).Perm (rowF f n) := by
  unfold stab
  split
  · exact perm_insRun 0 f _ (by omega)
  · rename_i h
    exact (perm_sym _ _ _ _ _ (by omega) (by omega) (Nat.le_refl _)).trans ((perm_insRun 20 _ _ (by omega)).trans (perm_insRun 0 f 19 (by omega)))
end

/-! ### the places: one by one -/
/-- Walking down as long as a test holds. -/
def posD (p : Nat → Bool) : Nat → Nat
  | 0 => 0
  | k + 1 => if p k = true then posD p k else k + 1
theorem posD_ok (p : Nat → Bool) : ∀ k, posD p k ≤ k ∧ (∀ q, posD p k ≤ q → q < k → p q = true) ∧ (posD p k = 0 ∨ p (posD p k - 1) = false)
  | 0 => ⟨Nat.le_refl _, fun q _ h => by omega, .inl rfl⟩
  | k + 1 => by
    obtain ⟨h1, h2, h3⟩ := posD_ok p k
    simp only [posD]
    split
    · rename_i hp
      refine ⟨by omega, fun q hq1 hq2 => ?_, h3⟩
      by_cases e : q = k
      · rw [e]; exact hp
      · exact h2 q hq1 (by omega)
    · rename_i hp
      exact ⟨Nat.le_refl _, fun q h1 h2 => by omega, .inr (by simpa using hp)⟩
/-- Where the number i comes among places. -/
def plPos (key : Int → Int) (out : List Int) (i : Int) : Nat := posD (fun q => decide (key i < key (out.getD q 0))) out.length
def plL (key : Int → Int) : Nat → List Int
  | 0 => []
  | i + 1 => (plL key i).take (plPos key (plL key i) (i : Int)) ++ [(i : Int)] ++ (plL key i).drop (plPos key (plL key i) (i : Int))
theorem plL_length (key : Int → Int) : ∀ n, (plL key n).length = n
  | 0 => rfl
  | n + 1 => by
    have ih := plL_length key n
    have h : plPos key (plL key n) (n : Int) ≤ (plL key n).length := (posD_ok (fun q => decide (key n < key ((plL key n).getD q 0))) (plL key n).length).1
    simp only [plL, List.length_append, List.length_take, List.length_drop, List.length_singleton]
    omega
theorem plL_perm (key : Int → Int) : ∀ n, (plL key n).Perm (rowF (fun k => (k : Int)) n)
  | 0 => List.Perm.refl _
  | n + 1 => by
    have ih := plL_perm key n
    have h : rowF (fun k => (k : Int)) (n + 1) = rowF (fun k => (k : Int)) n ++ [(n : Int)] := by simp [rowF, List.range_succ]
    rw [h]
    simp only [plL]
    generalize plPos key (plL key n) (n : Int) = s
    have h1 : ((plL key n).take s ++ [(n : Int)] ++ (plL key n).drop s).Perm ([(n : Int)] ++ ((plL key n).take s ++ (plL key n).drop s)) := by
      rw [List.append_assoc, ← List.append_assoc [(n : Int)]]
      refine (List.perm_append_comm_assoc _ _ _).trans ?_
      rw [List.append_assoc]
    rw [List.take_append_drop] at h1
    exact h1.trans ((List.perm_append_comm).trans (List.Perm.append_right _ ih))
theorem plL_mem {key : Int → Int} {n : Nat} {z : Int} (h : z ∈ plL key n) : ∃ k : Nat, z = k ∧ k < n := by
  have := (plL_perm key n).mem_iff.1 h
  simp only [rowF, List.mem_map, List.mem_range] at this
  obtain ⟨k, hk, rfl⟩ := this
  exact ⟨k, rfl, hk⟩
theorem plL_sorted (key : Int → Int) : ∀ n, (plL key n).Pairwise (Rk key)
  | 0 => List.Pairwise.nil
  | n + 1 => by
    have ih := plL_sorted key n
    obtain ⟨h1, h2, h3⟩ := posD_ok (fun q => decide (key n < key ((plL key n).getD q 0))) (plL key n).length
    have hm : ∀ z ∈ plL key n, z < (n : Int) := fun z hz => by obtain ⟨k, rfl, hk⟩ := plL_mem hz; omega
    simp only [plL]
    change plPos key (plL key n) (n : Int) ≤ _ at h1
    change ∀ q, plPos key (plL key n) (n : Int) ≤ q → _ at h2
    change plPos key (plL key n) (n : Int) = 0 ∨ decide (key n < key ((plL key n).getD (plPos key (plL key n) (n : Int) - 1) 0)) = false at h3
    simp only [decide_eq_true_eq, decide_eq_false_iff_not] at h2 h3
    generalize plPos key (plL key n) (n : Int) = s at h1 h2 h3
    have hget : ∀ q (hq : q < (plL key n).length), (plL key n).getD q 0 = (plL key n)[q] := fun q hq => by simp [List.getD, hq]
    have hpre : ∀ q (hq : q < (plL key n).length), q < s → Rk key (plL key n)[q] (n : Int) := by
      intro q hq hqs
      have hs1 : s - 1 < (plL key n).length := by omega
      have hr : Rk key (plL key n)[s - 1] (n : Int) := Rk.of_not (by rcases h3 with h | h; omega; rw [hget _ hs1] at h; exact h) (hm _ (List.getElem_mem _))
      by_cases e : q = s - 1
      · subst e; exact hr
      · exact (List.pairwise_iff_getElem.1 ih q (s - 1) hq hs1 (by omega)).trans hr
    have hpost : ∀ q (hq : q < (plL key n).length), s ≤ q → Rk key (n : Int) (plL key n)[q] := by
      intro q hq hqs
      have := h2 q hqs hq
      rw [hget _ hq] at this
      exact Rk.of_lt this
    rw [List.append_assoc, List.pairwise_append]
    refine ⟨ih.sublist (List.take_sublist _ _), ?_, ?_⟩
    · rw [List.singleton_append, List.pairwise_cons]
      refine ⟨?_, ih.sublist (List.drop_sublist _ _)⟩
      intro z hz
      obtain ⟨q, hq, rfl⟩ := List.mem_iff_getElem.1 hz
      rw [List.getElem_drop]
      exact hpost _ _ (by omega)
    · intro x hx y hy
      obtain ⟨q, hq, rfl⟩ := List.mem_iff_getElem.1 hx
      rw [List.length_take] at hq
      rw [List.getElem_take]
      rcases List.mem_append.1 hy with hy | hy
      · rw [List.mem_singleton] at hy
        subst hy
        exact hpre q (by omega) (by omega)
      · obtain ⟨r, hr, rfl⟩ := List.mem_iff_getElem.1 hy
        rw [List.length_drop] at hr
        rw [List.getElem_drop]
        exact List.pairwise_iff_getElem.1 ih q (s + r) (by omega) (by omega) (by omega)
/-- A sorted row of the numbers below n is the places. -/
theorem places_unique {key : Int → Int} {n : Nat} {l : List Int} (hp : l.Perm (rowF (fun k => (k : Int)) n)) (hs : l.Pairwise (Rk key)) : l = plL key n :=
  List.Perm.eq_of_pairwise (le := Rk key) (fun _ _ _ _ h k => (h.asymm k).elim) hs (plL_sorted key n) (hp.trans (plL_perm key n).symm)
theorem stab_places (key : Int → Int) (n : Nat) : rowF (stab key n fun k => (k : Int)) n = plL key n := by
  refine places_unique (perm_stab _) ?_
  rw [List.pairwise_iff_getElem]
  intro i j hi hj hij
  rw [rowF_length] at hi hj
  rw [rowF_get _ _ _ hi, rowF_get _ _ _ hj]
  exact stab_ok n _ (fun i j h _ => by omega) i j (Nat.zero_le _) hij hj
end Go.Proofs.YtmfoaggohlfflaaGreatDoor

/-! ### slices.SortStableFunc over []int64 on a row of the call's own of at most 40 numbers, at a closure that compares by keys. -/
namespace Go.Proofs.YtmfoaggohlfflaaGreatDoor
open Go.RowKit

/-- The row of the call's own: n numbers. -/
def Row (w : World) (base g n c : Nat) (f : Nat → Int) : Prop := w.ownsRow base 2 1 (.slice (some ⟨g, 0, none⟩) n c) n (ints (rowF f n))
theorem ints_set (xs : List Int) (k : Nat) (v : Int) : ints (xs.set k v) = (ints xs).set k (.int .i64 v) := by simp [ints, List.map_set]
theorem Row.cell {w : World} {base g n c : Nat} {f : Nat → Int} (h : Row w base g n c f) {k : Nat} (hk : k < n) : w.cell? ⟨g, k, none⟩ = some (.int .i64 (f k)) := by
  have h1 := own_cell h k (by rw [ints_length, rowF_length]; exact hk)
  rw [h1]
  simp [ints, rowF]
theorem Row.sw {w : World} {base g n c : Nat} {f : Nat → Int} (h : Row w base g n c f) {i j : Nat} : Row ((w.setCell ⟨g, j, none⟩ (.int .i64 (f i))).setCell ⟨g, i, none⟩ (.int .i64 (f j))) base g n c (fsw f i j) := by
  unfold Row
  rw [rowF_fsw, ints_set, ints_set]
  exact ownsRow_set (ownsRow_set h j _) i _
theorem fsw_comm (f : Nat → Int) (i j : Nat) : fsw f i j = fsw f j i := by
  funext k
  unfold fsw
  repeat' split
  all_goals first | rfl | (congr 1 <;> omega) | omega
theorem Row.sw' {w : World} {base g n c : Nat} {f : Nat → Int} (h : Row w base g n c f) {i j : Nat} : Row ((w.setCell ⟨g, i, none⟩ (.int .i64 (f j))).setCell ⟨g, j, none⟩ (.int .i64 (f i))) base g n c (fsw f i j) := by
  rw [fsw_comm]
  exact Row.sw h
theorem Row.grown {w : World} {base g n c : Nat} {f : Nat → Int} (h : Row w base g n c f) (i j : Nat) (u v : Value) : w.grownBy ((w.setCell ⟨g, i, none⟩ u).setCell ⟨g, j, none⟩ v) (some g) :=
  grown_trans (h.stored i u).2 ((ownsRow_set h i u).stored j v).2
theorem Row.bs {w w' : World} {base g n c : Nat} {f : Nat → Int} (h : Row w base g n c f) (hb : Below w.heap.size w w') : Row w' base g n c f := own_bs h hb
theorem Row.froz {w : World} {base g n c : Nat} {f : Nat → Int} (h : Row w base g n c f) (k : Nat) : w.frozen? ⟨g, k, none⟩ = false := h.frozenAt k
theorem grown_drew {a b : World} {row : Option Nat} (h : a.grownBy b row) : a.grownBy b.drew row := ⟨h.os, h.tape, h.output, h.size, h.block⟩
/-- The second store of an exchange finds its cell. -/
theorem Row.two {w : World} {base g n c : Nat} {f : Nat → Int} (h : Row w base g n c f) {p q : Nat} {v : Int} (hv : v = f q) (hq : q < n) : (w.setCell ⟨g, p, none⟩ (.int .i64 v)).drew.cell? ⟨g, q, none⟩ = some (.int .i64 v) := by
  have h1 := ownsRow_set h p (.int .i64 v)
  rw [← ints_set] at h1
  have h2 := own_cell h1 q (by rw [ints_length, List.length_set, rowF_length]; exact hq)
  show (w.setCell ⟨g, p, none⟩ (.int .i64 v)).cell? ⟨g, q, none⟩ = _
  rw [h2]
  simp only [ints, List.getElem_map, List.getElem_set]
  split
  · rfl
  · rw [rowF_get _ _ _ hq, hv]
theorem grown_below {a w w' : World} {g : Nat} (h : a.grownBy w (some g)) (hb : Below w.heap.size w w') : a.grownBy w' (some g) :=
  grown_trans h ⟨hb.os, hb.tape, hb.output, hb.size, fun k hk _ => hb.block k hk⟩

set_option maxRecDepth 20000 in
set_option maxHeartbeats 4000000 in
theorem swapRange_any (base g n c a b t : Nat) (cv : Value) (f : Nat → Int) (w : World) (h : Row w base g n c f) (ha : a + t ≤ n) (hb : b + t ≤ n) (hn : n ≤ 1048576) :
    Calls Tryz.prog 210 #[.slice (some ⟨g, 0, none⟩) n c, .int .i64 a, .int .i64 b, .int .i64 t, cv] w fun e w' => e = .returned (.tuple #[]) ∧ Row w' base g n c (swR a b t f) ∧ w.grownBy w' (some g) := by
  go_enter Tryz.func210, Tryz.ntmps210
  go_wp2
  go_loopw [10] (fun i wr => ∃ k : Nat, k ≤ t ∧ i = .int .i64 k ∧ Row wr base g n c (swR a b k f) ∧ w.grownBy wr (some g)) (fun i _ => t - (intOf i).toNat)
  case atStart => exact ⟨0, by omega, rfl, h, World.grownBy.refl w _⟩
  case round =>
    obtain ⟨wo, rfl⟩ : ∃ wo : World, wo = wr := ⟨_, rfl⟩
    obtain ⟨k, hk, rfl, hrow, hgr⟩ := hrel
    by_cases hlt : k < t
    · obtain ⟨F, hF⟩ : ∃ F, F = swR a b k f := ⟨_, rfl⟩
      have HS := Lib.hid (show swR a b (k + 1) f = fsw F (a + k) (b + k) by rw [hF]; rfl)
      rw [← hF] at hrow
      have HROW := Lib.hid hrow
      obtain ⟨p, hp⟩ : ∃ p, p = a + k := ⟨_, rfl⟩
      obtain ⟨q, hq⟩ : ∃ q, q = b + k := ⟨_, rfl⟩
      rw [← hp, ← hq] at HS
      have c1 := hrow.cell (show p < n by omega)
      have c2 := hrow.cell (show q < n by omega)
      have g1 := hrow.froz p
      have g2 := hrow.froz q
      obtain ⟨u, hu⟩ : ∃ u, u = F p := ⟨_, rfl⟩
      obtain ⟨v, hv⟩ : ∃ v, v = F q := ⟨_, rfl⟩
      rw [← hu] at c1
      rw [← hv] at c2
      have i1 : (a : Int) + (k : Int) = (p : Int) := by omega
      have i2 : (b : Int) + (k : Int) = (q : Int) := by omega
      have i3 : (p : Int) < (n : Int) := by omega
      have i4 : (q : Int) < (n : Int) := by omega
      have HU := Lib.hid hu
      have HV := Lib.hid hv
      have c3 := hrow.two (p := p) hv (show q < n by omega)
      clear hF hu hv hrow hp hq
      go_wp2_with fail
      go_region
      go_wp2
      go_roundw
      case rel =>
        refine ⟨k + 1, by omega, by go_num, ?_, ?_⟩
        · rw [HS.out, HU.out, HV.out]
          exact HROW.out.sw'
        · exact grown_drew (grown_trans hgr (HROW.out.grown p q _ _))
      case measure => simp [intOf]; omega
    · obtain rfl : k = t := by omega
      go_wp2
      go_end0
      exact ⟨rfl, hrow, hgr⟩
theorem swapRange_z (base g n c : Nat) (za zb zt : Int) (cv : Value) (f : Nat → Int) (w : World) (a b t : Nat) (h1 : za = (a : Int)) (h2 : zb = (b : Int)) (h3 : zt = (t : Int)) (h : Row w base g n c f) (ha : a + t ≤ n) (hb : b + t ≤ n) (hn : n ≤ 1048576) :
    Calls Tryz.prog 210 #[.slice (some ⟨g, 0, none⟩) n c, .int .i64 za, .int .i64 zb, .int .i64 zt, cv] w fun e w' => e = .returned (.tuple #[]) ∧ Row w' base g n c (swR a b t f) ∧ w.grownBy w' (some g) := by
  subst h1 h2 h3
  exact swapRange_any base g n c a b t cv f w h ha hb hn

set_option maxRecDepth 20000 in
set_option maxHeartbeats 4000000 in
theorem rotate_any (base g n c a m b : Nat) (cv : Value) (f : Nat → Int) (w : World) (h : Row w base g n c f) (ham : a < m) (hmb : m < b) (hb : b ≤ n) (hn : n ≤ 1048576) :
    Calls Tryz.prog 209 #[.slice (some ⟨g, 0, none⟩) n c, .int .i64 a, .int .i64 m, .int .i64 b, cv] w fun e w' => e = .returned (.tuple #[]) ∧ Row w' base g n c (rot m (m - a) (b - m) f) ∧ w.grownBy w' (some g) := by
  go_enter Tryz.func209, Tryz.ntmps209
  go_wp2
  go_loopw [10, 11] (fun vi vj wr => ∃ (i j : Nat) (F : Nat → Int), 0 < i ∧ 0 < j ∧ i ≤ m ∧ m + j ≤ n ∧ vi = .int .i64 i ∧ vj = .int .i64 j ∧ rot m i j F = rot m (m - a) (b - m) f ∧ Row wr base g n c F ∧ w.grownBy wr (some g)) (fun vi vj _ => (intOf vi).toNat + (intOf vj).toNat)
  case atStart => exact ⟨m - a, b - m, f, by omega, by omega, by omega, by omega, by go_num, by go_num, rfl, h, World.grownBy.refl w _⟩
  case round =>
    obtain ⟨wo, rfl⟩ : ∃ wo : World, wo = wr := ⟨_, rfl⟩
    obtain ⟨i, j, F, hi, hj, him, hjn, rfl, rfl, hrot, hrow, hgr⟩ := hrel
    have HR := Lib.hid hrot
    clear hrot
    by_cases he : i = j
    · have e1 : ((i : Int) != (j : Int)) = false := bne_f (by omega)
      have HE := Lib.hid (show rot m (m - a) (b - m) f = swR (m - i) m i F by rw [← HR.out, rot, dif_pos (.inl he)])
      have b2 : m + i ≤ n := by omega
      clear he
      go_wp2_with fail
      refine (swapRange_z base g n c _ _ _ cv F _ (m - i) m i (by omega) rfl rfl hrow (by omega) (by omega) hn).mono ?_; rintro e w1 ⟨rfl, hr1, hg1⟩
      go_wp2
      go_end0
      exact ⟨rfl, by rw [HE.out]; exact hr1, grown_trans hgr hg1⟩
    · have e1 : ((i : Int) != (j : Int)) = true := bne_t (by omega)
      by_cases hlt : j < i
      · have HE := Lib.hid (show rot m (i - j) j (swR (m - i) m j F) = rot m (m - a) (b - m) f by rw [← HR.out]; conv => rhs; rw [rot, dif_neg (by omega), if_pos hlt])
        have i1 : (j : Int) < (i : Int) := by omega
        clear he
        go_wp2_with fail
        refine (swapRange_z base g n c _ _ _ cv F _ (m - i) m j (by omega) rfl rfl hrow (by omega) (by omega) hn).mono ?_; rintro e w1 ⟨rfl, hr1, hg1⟩
        go_wp2
        go_roundw
        case rel => exact ⟨i - j, j, _, by omega, by omega, by omega, by omega, by go_num, rfl, HE.out, hr1, grown_trans hgr hg1⟩
        case measure => simp [intOf]; omega
      · have HE := Lib.hid (show rot m i (j - i) (swR (m - i) (m + j - i) i F) = rot m (m - a) (b - m) f by rw [← HR.out]; conv => rhs; rw [rot, dif_neg (by omega), if_neg hlt])
        have i1 : ¬ (j : Int) < (i : Int) := by omega
        have HLT := Lib.hid (show i < j by omega)
        clear he
        go_wp2_with fail
        refine (swapRange_z base g n c _ _ _ cv F _ (m - i) (m + j - i) i (by omega) (by omega) rfl hrow (by omega) (by omega) hn).mono ?_; rintro e w1 ⟨rfl, hr1, hg1⟩
        go_wp2
        go_roundw
        case rel => exact ⟨i, j - i, _, by omega, by have := HLT.out; omega, by omega, by omega, rfl, by go_num, HE.out, hr1, grown_trans hgr hg1⟩
        case measure => simp [intOf]; omega
theorem rotate_z (base g n c : Nat) (za zm zb : Int) (cv : Value) (f : Nat → Int) (w : World) (a m b : Nat) (h1 : za = (a : Int)) (h2 : zm = (m : Int)) (h3 : zb = (b : Int)) (h : Row w base g n c f) (ham : a < m) (hmb : m < b) (hb : b ≤ n) (hn : n ≤ 1048576) :
    Calls Tryz.prog 209 #[.slice (some ⟨g, 0, none⟩) n c, .int .i64 za, .int .i64 zm, .int .i64 zb, cv] w fun e w' => e = .returned (.tuple #[]) ∧ Row w' base g n c (rot m (m - a) (b - m) f) ∧ w.grownBy w' (some g) := by
  subst h1 h2 h3
  exact rotate_any base g n c a m b cv f w h ham hmb hb hn
end Go.Proofs.YtmfoaggohlfflaaGreatDoor

/-! ### slices.SortStableFunc over []int64: the insertion sort of a part of the row, at a closure that compares by keys. -/
namespace Go.Proofs.YtmfoaggohlfflaaGreatDoor
open Go.RowKit

/-- What is asked of the closure: at numbers below n, in every world that holds what lay below base, it compares and leaves old memory alone. -/
def CmpOk (F : FuncId) (cb : Array Value) (cf : Int → Int → Int) (base n : Nat) (w : World) : Prop :=
  ∀ x y : Int, 0 ≤ x → x < n → 0 ≤ y → y < n → ∀ w', Below base w w' → Calls Tryz.prog F (#[.int .i64 x, .int .i64 y] ++ cb) w' fun e w'' => e = .returned (.int .i64 (cf x y)) ∧ Below w'.heap.size w' w''
theorem CmpOk.later {F : FuncId} {cb : Array Value} {cf : Int → Int → Int} {base n : Nat} {w w' : World} (h : CmpOk F cb cf base n w) (hb : Below base w w') : CmpOk F cb cf base n w' :=
  fun x y h1 h2 h3 h4 w'' hb' => h x y h1 h2 h3 h4 w'' (hb.trans hb')
theorem grown_base {w w' : World} {base g : Nat} (h : w.grownBy w' (some g)) (hg : base ≤ g) (hb : base ≤ w.heap.size) : Below base w w' :=
  (Below.refl _ _).grown h hb fun k hk => by injection hk with hk; omega
def Vals (f : Nat → Int) (n : Nat) : Prop := ∀ k, k < n → 0 ≤ f k ∧ f k < n
theorem Vals.perm {f g : Nat → Int} {n : Nat} (h : Vals f n) (hp : (rowF g n).Perm (rowF f n)) : Vals g n := by
  intro k hk
  have h1 : g k ∈ rowF g n := List.mem_map.2 ⟨k, List.mem_range.2 hk, rfl⟩
  obtain ⟨j, hj, e⟩ := List.mem_map.1 (hp.mem_iff.1 h1)
  rw [← e]
  exact h j (List.mem_range.1 hj)
theorem Row.base {w : World} {base g n c : Nat} {f : Nat → Int} (h : Row w base g n c f) : base ≤ g ∧ g < w.heap.size := h.lt g rfl

set_option maxRecDepth 20000 in
set_option maxHeartbeats 8000000 in
theorem insertion_any (base g n c a b : Nat) (F : FuncId) (cb : Array Value) (cf : Int → Int → Int) (key : Int → Int) (f : Nat → Int) (w : World) (eg : ∀ args w, (callFunc F args).run Tryz.prog w = .ok (.enter F args) w)
    (hcmp : CmpOk F cb cf base n w) (hcf : ∀ x y : Int, 0 ≤ x → x < n → 0 ≤ y → y < n → (cf x y < 0 ↔ key x < key y)) (h : Row w base g n c f) (hv : Vals f n) (hab : a ≤ b) (hb : b ≤ n) (hn : n ≤ 1048576) :
    Calls Tryz.prog 203 #[.slice (some ⟨g, 0, none⟩) n c, .int .i64 a, .int .i64 b, .func (.func F) #[] cb] w fun e w' => e = .returned (.tuple #[]) ∧ Row w' base g n c (insRun key a (b - a - 1) f) ∧ w.grownBy w' (some g) := by
  have HC := Lib.hid hcmp
  have HF := Lib.hid hcf
  obtain ⟨hbg, hgw⟩ := h.base
  have hbw : base ≤ w.heap.size := by omega
  clear hcmp hcf
  go_enter Tryz.func203, Tryz.ntmps203
  go_wp2
  go_loopw [8] (fun vi wr => ∃ (m : Nat) (G : Nat → Int), (m ≤ b - a - 1) ∧ vi = .int .i64 ((a + 1 + m : Nat) : Int) ∧ Hid (G = insRun key a m f) ∧ Vals G n ∧ Row wr base g n c G ∧ w.grownBy wr (some g)) (fun vi _ => b + 1 - (intOf vi).toNat)
  case atStart => exact ⟨0, f, by omega, by go_num, Lib.hid rfl, hv, h, World.grownBy.refl w _⟩
  case round =>
    obtain ⟨wo, rfl⟩ : ∃ wo : World, wo = wr := ⟨_, rfl⟩
    obtain ⟨m, G, hm, rfl, HG, hvG, hrow, hgr⟩ := hrel
    obtain ⟨i, hi⟩ : ∃ i, i = a + 1 + m := ⟨_, rfl⟩
    rw [← hi]
    by_cases hlt : i < b
    · have HI := Lib.hid hi
      have HVG := Lib.hid hvG
      have i1 : (i : Int) < (b : Int) := by omega
      have HAI := Lib.hid (show a + 1 ≤ i by omega)
      clear hi hvG
      go_wp2
      go_loopw [9] (fun vj wr => ∃ (j : Nat) (H : Nat → Int), a ≤ j ∧ j ≤ i ∧ vj = .int .i64 j ∧ Hid (insIn key a j H = insIn key a i G) ∧ Vals H n ∧ Row wr base g n c H ∧ w.grownBy wr (some g)) (fun vj _ => (intOf vj).toNat)
      case atStart => exact ⟨i, G, by have := HAI.out; omega, Nat.le_refl _, rfl, Lib.hid rfl, HVG.out, hrow, hgr⟩
      case round =>
        obtain ⟨wq, rfl⟩ : ∃ wq : World, wq = wr := ⟨_, rfl⟩
        obtain ⟨j, H, haj, hji, rfl, HH, hvH, hrowH, hgrH⟩ := hrel
        have HVH := Lib.hid hvH
        have HBW := Lib.hid (grown_base hgrH hbg hbw)
        have HROW := Lib.hid hrowH
        clear hvH
        -- out of the inner loop: the outer round's end
        have OUT := Lib.hid (show (¬ (a < j ∧ key (H j) < key (H (j - 1)))) → H = insRun key a (m + 1) f from fun hn => by
          rw [show insRun key a (m + 1) f = insIn key a i G by rw [HG]; simp only [insRun, HI.out], ← HH]
          cases j with
          | zero => rfl
          | succ j => simp only [insIn]; rw [if_neg (by simpa using hn)])
        by_cases hja : a < j
        · obtain ⟨jp, rfl⟩ : ∃ jp, j = jp + 1 := ⟨j - 1, by omega⟩
          have hjn : jp + 1 < n := by omega
          obtain ⟨u, hu⟩ : ∃ u, u = H (jp + 1) := ⟨_, rfl⟩
          obtain ⟨v, hv'⟩ : ∃ v, v = H jp := ⟨_, rfl⟩
          have c1 := hrowH.cell (show jp + 1 < n by omega)
          have c2 := hrowH.cell (show jp < n by omega)
          rw [← hu] at c1
          rw [← hv'] at c2
          have HR := Lib.hid (show 0 ≤ u ∧ u < n ∧ 0 ≤ v ∧ v < n by rw [hu, hv']; exact ⟨(HVH.out _ hjn).1, (HVH.out _ hjn).2, (HVH.out jp (by omega)).1, (HVH.out jp (by omega)).2⟩)
          have HK := Lib.hid (show cf u v < 0 ↔ key (H (jp + 1)) < key (H (jp + 1 - 1)) by rw [Nat.add_sub_cancel, ← hu, ← hv']; exact HF.out u v HR.out.1 HR.out.2.1 HR.out.2.2.1 HR.out.2.2.2)
          obtain ⟨z, hz⟩ : ∃ z, z = cf u v := ⟨_, rfl⟩
          have HZ := Lib.hid hz
          rw [← hz] at HK
          have hcl := Lib.hid (fun x : Later wq => (show Calls Tryz.prog F (#[.int .i64 u, .int .i64 v] ++ cb) x.val fun e w'' => e = .returned (.int .i64 z) ∧ Below x.val.heap.size x.val w'' by
            rw [HZ.out]
            exact HC.out u v HR.out.1 HR.out.2.1 HR.out.2.2.1 HR.out.2.2.2 _ (HBW.out.trans (x.below.mono (show base ≤ wq.heap.size from Nat.le_trans hbw hgrH.size)))))
          have HU := Lib.hid hu
          have HV := Lib.hid hv'
          have hwp : IntKind.i64.wrap (jp : Int) = (jp : Int) := by rw [IntKind.wrap_i64]; omega
          have jz : (jp : Int) + 1 < (n : Int) := by omega
          have jz1 : (jp : Int) < (n : Int) := by omega
          have hjaz' : (a : Int) < (jp : Int) + 1 := by omega
          have p0 : (0 : Int) ≤ (jp : Int) + 1 := by omega
          have e0 : ((jp : Int) + 1).toNat = jp + 1 := by omega
          have l1 := fun x : Later wq => lat_cell x c1
          have l2 := fun x : Later wq => lat_cell x c2
          clear hz hu hv'
          by_cases hlv : z < 0
          · have HKT := Lib.hid (show a < jp + 1 ∧ key (H (jp + 1)) < key (H jp) from ⟨hja, by have := HK.out.1 hlv; rwa [Nat.add_sub_cancel] at this⟩)
            have HIN := Lib.hid (show insIn key a jp (fsw H (jp + 1) jp) = insIn key a i G by rw [← HH]; simp only [insIn]; rw [if_pos HKT.out])
            go_wp2_with fail
            refine wp_region_later (by kernel_rfl) (by kernel_rfl) ?_
            repeat (go_big_quiet_step ((exact lat_call (hcl.out _))))
            refine wpQuiet_nil ?_
            intro w4 hb4
            have hrow4 := HROW.out.bs hb4
            have d1 := cell_later hb4 c1
            have d2 := cell_later hb4 c2
            have g1 := hrow4.froz (jp + 1)
            have g2 := hrow4.froz jp
            have d3 := hrow4.two (p := jp + 1) (q := jp) HV.out (by omega)
            have HROW4 := Lib.hid hrow4
            have HGR4 := Lib.hid (grown_below hgrH hb4)
            clear l1 l2 c1 c2 hrow4 hb4 hrowH hgrH
            go_wp2_with fail
            obtain ⟨j1, hj1⟩ : ∃ j1, j1 = jp + 1 := ⟨_, rfl⟩
            rw [← hj1] at d1 g1 d3 e0
            have J1 := Lib.hid hj1
            clear hj1
            go_region
            go_wp2
            go_roundw
            case rel =>
              refine ⟨jp, fsw H (jp + 1) jp, by have := HKT.out.1; omega, by omega, by first | rfl | go_num | (congr 1; omega), HIN.out, HVH.out.perm (perm_fsw H n (jp + 1) jp hjn (by omega)), ?_, ?_⟩
              · rw [J1.out, HU.out, HV.out]
                exact HROW4.out.sw'
              · exact grown_drew (grown_trans HGR4.out (HROW4.out.grown j1 jp _ _))
            case measure => (simp [intOf]; try omega)
          · have HEQ := Lib.hid (OUT.out (fun hn => hlv (HK.out.2 hn.2)))
            go_wp2_with fail
            refine wp_region_later (by kernel_rfl) (by kernel_rfl) ?_
            repeat (go_big_quiet_step ((exact lat_call (hcl.out _))))
            refine wpQuiet_nil ?_
            intro w4 hb4
            have HROW4 := Lib.hid (HROW.out.bs hb4)
            have HGR4 := Lib.hid (grown_below hgrH hb4)
            clear l1 l2 c1 c2 hb4 hrowH hgrH
            go_wp2
            go_roundw
            case rel => exact ⟨m + 1, H, by have := HI.out; omega, by rw [HI.out]; first | done | go_num, HEQ.out, HVH.out, HROW4.out, HGR4.out⟩
            case measure => (simp [intOf]; try omega)
        · have HEQ := Lib.hid (OUT.out (fun hn => hja hn.1))
          have hjaz : decide ((j : Int) > (a : Int)) = false := decide_eq_false (by omega)
          have hjaz' : ¬ (a : Int) < (j : Int) := by omega
          go_wp2_with fail
          refine wp_region_later (by kernel_rfl) (by kernel_rfl) ?_
          repeat (go_big_quiet_step (fail))
          refine wpQuiet_nil ?_
          intro w4 hb4
          have HROW4 := Lib.hid (HROW.out.bs hb4)
          have HGR4 := Lib.hid (grown_below hgrH hb4)
          clear hb4 hrowH hgrH
          go_wp2
          go_roundw
          case rel => exact ⟨m + 1, H, by have := HI.out; omega, by rw [HI.out]; first | done | go_num, HEQ.out, HVH.out, HROW4.out, HGR4.out⟩
          case measure => (simp [intOf]; try omega)
    · have HE := Lib.hid (show G = insRun key a (b - a - 1) f by rw [HG]; congr 1; omega)
      have i1 : ¬ (i : Int) < (b : Int) := by omega
      go_wp2
      go_end0
      exact ⟨rfl, by rw [← HE.out]; exact hrow, hgr⟩
end Go.Proofs.YtmfoaggohlfflaaGreatDoor

/-! ### slices.SortStableFunc over []int64: merging, where one of the two parts is a single number. -/
namespace Go.Proofs.YtmfoaggohlfflaaGreatDoor
open Go.RowKit

theorem bsr_yes {p : Nat → Bool} {i j h : Nat} (hij : i < j) (hh : h = (i + j) / 2) (hp : p h = true) : bsr p (h + 1) j = bsr p i j := by
  subst hh
  conv => rhs; rw [bsr, dif_pos hij, if_pos hp]
theorem bsr_no {p : Nat → Bool} {i j h : Nat} (hij : i < j) (hh : h = (i + j) / 2) (hp : p h = false) : bsr p i h = bsr p i j := by
  subst hh
  conv => rhs; rw [bsr, dif_pos hij, if_neg (by simp [hp])]
theorem bsr_end {p : Nat → Bool} {i j : Nat} (hij : ¬ i < j) : bsr p i j = i := by rw [bsr, dif_neg hij]

set_option maxRecDepth 20000 in
set_option maxHeartbeats 8000000 in
theorem symLeft_any (base g n c a m b : Nat) (F : FuncId) (cb : Array Value) (cf : Int → Int → Int) (key : Int → Int) (f : Nat → Int) (w : World) (eg : ∀ args w, (callFunc F args).run Tryz.prog w = .ok (.enter F args) w)
    (hcmp : CmpOk F cb cf base n w) (hcf : ∀ x y : Int, 0 ≤ x → x < n → 0 ≤ y → y < n → (cf x y < 0 ↔ key x < key y)) (h : Row w base g n c f) (hv : Vals f n) (ham : m - a = 1) (hmb : m < b) (hb : b ≤ n) (hn : n ≤ 1048576) :
    Calls Tryz.prog 204 #[.slice (some ⟨g, 0, none⟩) n c, .int .i64 a, .int .i64 m, .int .i64 b, .func (.func F) #[] cb] w fun e w' => e = .returned (.tuple #[]) ∧ Row w' base g n c (mvUp a (bsr (fun h => decide (key (f h) < key (f a))) m b - 1 - a) f) ∧ w.grownBy w' (some g) := by
  have HC := Lib.hid hcmp
  have HF := Lib.hid hcf
  have HV := Lib.hid hv
  obtain ⟨hbg, hgw⟩ := h.base
  have hbw : base ≤ w.heap.size := by omega
  obtain ⟨p, hp⟩ : ∃ p, p = fun h => decide (key (f h) < key (f a)) := ⟨_, rfl⟩
  have HP := Lib.hid hp
  rw [← hp]
  have e1 : (((m : Int) - (a : Int)) == 1) = true := beq_t (by omega)
  have hma : a < m := by omega
  clear hcmp hcf hv hp ham
  go_enter Tryz.func204, Tryz.ntmps204
  go_wp2
  go_loopw [10, 11] (fun vi vj wr => ∃ (i j : Nat), m ≤ i ∧ i ≤ j ∧ j ≤ b ∧ vi = .int .i64 i ∧ vj = .int .i64 j ∧ Hid (bsr p i j = bsr p m b) ∧ Row wr base g n c f ∧ w.grownBy wr (some g)) (fun vi vj _ => (intOf vj).toNat - (intOf vi).toNat)
  case atStart => exact ⟨m, b, Nat.le_refl _, by omega, Nat.le_refl _, rfl, rfl, Lib.hid rfl, h, World.grownBy.refl w _⟩
  case round =>
    obtain ⟨wo, rfl⟩ : ∃ wo : World, wo = wr := ⟨_, rfl⟩
    obtain ⟨i, j, hmi, hij, hjb, rfl, rfl, HB, hrow, hgr⟩ := hrel
    by_cases hlt : i < j
    · have HBW := Lib.hid (grown_base hgr hbg hbw)
      obtain ⟨q, hq⟩ : ∃ q, q = (i + j) / 2 := ⟨_, rfl⟩
      have HQ := Lib.hid hq
      have hq1 : q < n := by omega
      have i1 : (i : Int) < (j : Int) := by omega
      have i2 : ((i : Int) + (j : Int)) / 2 = (q : Int) := by omega
      have i3 : (q : Int) < (n : Int) := by omega
      have i4 : (a : Int) < (n : Int) := by omega
      obtain ⟨u, hu⟩ : ∃ u, u = f q := ⟨_, rfl⟩
      obtain ⟨v, hv'⟩ : ∃ v, v = f a := ⟨_, rfl⟩
      have c1 := hrow.cell hq1
      have c2 := hrow.cell (show a < n by omega)
      rw [← hu] at c1
      rw [← hv'] at c2
      have HR := Lib.hid (show 0 ≤ u ∧ u < n ∧ 0 ≤ v ∧ v < n by rw [hu, hv']; exact ⟨(HV.out _ hq1).1, (HV.out _ hq1).2, (HV.out _ (show a < n by omega)).1, (HV.out _ (show a < n by omega)).2⟩)
      have HK := Lib.hid (show cf u v < 0 ↔ key (f (q)) < key (f (a)) by rw [← hu, ← hv']; exact HF.out u v HR.out.1 HR.out.2.1 HR.out.2.2.1 HR.out.2.2.2)
      obtain ⟨z, hz⟩ : ∃ z, z = cf u v := ⟨_, rfl⟩
      have HZ := Lib.hid hz
      rw [← hz] at HK
      have hcl := Lib.hid (fun x : Later wo => (show Calls Tryz.prog F (#[.int .i64 u, .int .i64 v] ++ cb) x.val fun e w'' => e = .returned (.int .i64 z) ∧ Below x.val.heap.size x.val w'' by
        rw [HZ.out]
        exact HC.out u v HR.out.1 HR.out.2.1 HR.out.2.2.1 HR.out.2.2.2 _ (HBW.out.trans (x.below.mono (show base ≤ wo.heap.size from Nat.le_trans hbw hgr.size)))))
      have l1 := fun x : Later wo => lat_cell x c1
      have l2 := fun x : Later wo => lat_cell x c2
      clear hz hu hv'
      clear hq
      by_cases hlv : z < 0
      · have HE := Lib.hid (show bsr p (q + 1) j = bsr p m b by rw [bsr_yes hlt HQ.out (by rw [HP.out]; exact decide_eq_true (HK.out.1 hlv))]; exact HB)
        go_wp2_with fail
        refine wp_region_later (by kernel_rfl) (by kernel_rfl) ?_
        repeat (go_big_quiet_step (exact lat_call (hcl.out _)))
        refine wpQuiet_nil ?_
        intro w4 hb4
        have HROW4 := Lib.hid (hrow.bs hb4)
        have HGR4 := Lib.hid (grown_below hgr hb4)
        clear l1 l2 c1 c2 hb4 hrow hgr
        go_wp2
        go_roundw
        case rel => exact ⟨q + 1, j, by have := HQ.out; omega, by have := HQ.out; omega, hjb, by go_num, rfl, HE.out, HROW4.out, HGR4.out⟩
        case measure => (have := HQ.out; simp [intOf]; try omega)
      · have HE := Lib.hid (show bsr p i q = bsr p m b by rw [bsr_no hlt HQ.out (by rw [HP.out]; exact decide_eq_false (fun h => hlv (HK.out.2 h)))]; exact HB)
        go_wp2_with fail
        refine wp_region_later (by kernel_rfl) (by kernel_rfl) ?_
        repeat (go_big_quiet_step (exact lat_call (hcl.out _)))
        refine wpQuiet_nil ?_
        intro w4 hb4
        have HROW4 := Lib.hid (hrow.bs hb4)
        have HGR4 := Lib.hid (grown_below hgr hb4)
        clear l1 l2 c1 c2 hb4 hrow hgr
        go_wp2
        go_roundw
        case rel => exact ⟨i, q, hmi, by have := HQ.out; omega, by have := HQ.out; omega, rfl, rfl, HE.out, HROW4.out, HGR4.out⟩
        case measure => (have := HQ.out; simp [intOf]; try omega)
    · have HE := Lib.hid (show bsr p m b = i by rw [← HB]; exact bsr_end hlt)
      rw [HE.out]
      have i1 : ¬ (i : Int) < (j : Int) := by omega
      go_wp2
      go_loopw [13] (fun vk wr => ∃ t : Nat, t ≤ i - 1 - a ∧ vk = .int .i64 ((a + t : Nat) : Int) ∧ Row wr base g n c (mvUp a t f) ∧ w.grownBy wr (some g)) (fun vk _ => i - (intOf vk).toNat)
      case atStart => exact ⟨0, by omega, by first | rfl | go_num, hrow, hgr⟩
      case round =>
        obtain ⟨wq, rfl⟩ : ∃ wq : World, wq = wr := ⟨_, rfl⟩
        obtain ⟨t, ht, rfl, hrow2, hgr2⟩ := hrel
        obtain ⟨k, hk⟩ : ∃ k, k = a + t := ⟨_, rfl⟩
        rw [← hk]
        by_cases hlt2 : k < i - 1
        · obtain ⟨G, hG⟩ : ∃ G, G = mvUp a t f := ⟨_, rfl⟩
          rw [← hG] at hrow2
          obtain ⟨k1, hk1⟩ : ∃ k1, k1 = k + 1 := ⟨_, rfl⟩
          have HS := Lib.hid (show mvUp a (t + 1) f = fsw G k k1 by rw [hk1, hk, hG]; rfl)
          have d1 := hrow2.cell (show k < n by omega)
          have d2 := hrow2.cell (show k1 < n by omega)
          have g1 := hrow2.froz k
          have g2 := hrow2.froz k1
          obtain ⟨u, hu⟩ : ∃ u, u = G k := ⟨_, rfl⟩
          obtain ⟨v, hv'⟩ : ∃ v, v = G k1 := ⟨_, rfl⟩
          rw [← hu] at d1
          rw [← hv'] at d2
          have d3 := hrow2.two (p := k) hv' (show k1 < n by omega)
          have HROW := Lib.hid hrow2
          have HU := Lib.hid hu
          have HV2 := Lib.hid hv'
          have HKK := Lib.hid hk
          have j1 : (k : Int) < (i : Int) - 1 := by omega
          have j2 : (k : Int) + 1 = (k1 : Int) := by omega
          have j3 : (k : Int) < (n : Int) := by omega
          have j4 : (k1 : Int) < (n : Int) := by omega
          clear hG hk hk1 hu hv' hrow2
          go_wp2_with fail
          go_region
          go_wp2
          go_roundw
          case rel =>
            refine ⟨t + 1, by have := HKK.out; omega, by have := HKK.out; first | rfl | go_num | (congr 1; omega), ?_, ?_⟩
            · rw [HS.out, HU.out, HV2.out]
              exact HROW.out.sw'
            · exact grown_drew (grown_trans hgr2 (HROW.out.grown k k1 _ _))
          case measure => (simp [intOf]; try omega)
        · have ht2 : t = i - 1 - a := by omega
          have j1 : ¬ (k : Int) < (i : Int) - 1 := by omega
          have HT := Lib.hid (show mvUp a (i - 1 - a) f = mvUp a t f by rw [ht2])
          clear ht2 hk
          go_wp2
          (try simp only [Exit.inBlock, Exit.then]); refine bodyPost_ret (results_none rfl _ _ _) rfl ?_
          exact ⟨rfl, by rw [HE.out, HT.out]; exact hrow2, hgr2⟩
set_option maxRecDepth 20000 in
set_option maxHeartbeats 8000000 in
theorem symRight_any (base g n c a m b : Nat) (F : FuncId) (cb : Array Value) (cf : Int → Int → Int) (key : Int → Int) (f : Nat → Int) (w : World) (eg : ∀ args w, (callFunc F args).run Tryz.prog w = .ok (.enter F args) w)
    (hcmp : CmpOk F cb cf base n w) (hcf : ∀ x y : Int, 0 ≤ x → x < n → 0 ≤ y → y < n → (cf x y < 0 ↔ key x < key y)) (h : Row w base g n c f) (hv : Vals f n) (ham : a < m) (hna : ¬ m - a = 1) (hmb : b - m = 1) (hb : b ≤ n) (hn : n ≤ 1048576) :
    Calls Tryz.prog 204 #[.slice (some ⟨g, 0, none⟩) n c, .int .i64 a, .int .i64 m, .int .i64 b, .func (.func F) #[] cb] w fun e w' => e = .returned (.tuple #[]) ∧ Row w' base g n c (mvDn m (m - bsr (fun h => !decide (key (f m) < key (f h))) a m) f) ∧ w.grownBy w' (some g) := by
  have HC := Lib.hid hcmp
  have HF := Lib.hid hcf
  have HV := Lib.hid hv
  obtain ⟨hbg, hgw⟩ := h.base
  have hbw : base ≤ w.heap.size := by omega
  obtain ⟨p, hp⟩ : ∃ p, p = fun h => !decide (key (f m) < key (f h)) := ⟨_, rfl⟩
  have HP := Lib.hid hp
  rw [← hp]
  have e1 : (((m : Int) - (a : Int)) == 1) = false := beq_f (by omega)
  have e2 : (((b : Int) - (m : Int)) == 1) = true := beq_t (by omega)
  have hmb2 : m < b := by omega
  clear hcmp hcf hv hp hna hmb
  go_enter Tryz.func204, Tryz.ntmps204
  go_wp2
  go_loopw [14, 15] (fun vi vj wr => ∃ (i j : Nat), a ≤ i ∧ i ≤ j ∧ j ≤ m ∧ vi = .int .i64 i ∧ vj = .int .i64 j ∧ Hid (bsr p i j = bsr p a m) ∧ Row wr base g n c f ∧ w.grownBy wr (some g)) (fun vi vj _ => (intOf vj).toNat - (intOf vi).toNat)
  case atStart => exact ⟨a, m, Nat.le_refl _, by omega, Nat.le_refl _, rfl, rfl, Lib.hid rfl, h, World.grownBy.refl w _⟩
  case round =>
    obtain ⟨wo, rfl⟩ : ∃ wo : World, wo = wr := ⟨_, rfl⟩
    obtain ⟨i, j, hmi, hij, hjb, rfl, rfl, HB, hrow, hgr⟩ := hrel
    by_cases hlt : i < j
    · have HBW := Lib.hid (grown_base hgr hbg hbw)
      obtain ⟨q, hq⟩ : ∃ q, q = (i + j) / 2 := ⟨_, rfl⟩
      have HQ := Lib.hid hq
      have hq1 : q < n := by omega
      have i1 : (i : Int) < (j : Int) := by omega
      have i2 : ((i : Int) + (j : Int)) / 2 = (q : Int) := by omega
      have i3 : (q : Int) < (n : Int) := by omega
      have i4 : (m : Int) < (n : Int) := by omega
      obtain ⟨u, hu⟩ : ∃ u, u = f m := ⟨_, rfl⟩
      obtain ⟨v, hv'⟩ : ∃ v, v = f q := ⟨_, rfl⟩
      have c1 := hrow.cell (show m < n by omega)
      have c2 := hrow.cell hq1
      rw [← hu] at c1
      rw [← hv'] at c2
      have HR := Lib.hid (show 0 ≤ u ∧ u < n ∧ 0 ≤ v ∧ v < n by rw [hu, hv']; exact ⟨(HV.out _ (show m < n by omega)).1, (HV.out _ (show m < n by omega)).2, (HV.out _ hq1).1, (HV.out _ hq1).2⟩)
      have HK := Lib.hid (show cf u v < 0 ↔ key (f (m)) < key (f (q)) by rw [← hu, ← hv']; exact HF.out u v HR.out.1 HR.out.2.1 HR.out.2.2.1 HR.out.2.2.2)
      obtain ⟨z, hz⟩ : ∃ z, z = cf u v := ⟨_, rfl⟩
      have HZ := Lib.hid hz
      rw [← hz] at HK
      have hcl := Lib.hid (fun x : Later wo => (show Calls Tryz.prog F (#[.int .i64 u, .int .i64 v] ++ cb) x.val fun e w'' => e = .returned (.int .i64 z) ∧ Below x.val.heap.size x.val w'' by
        rw [HZ.out]
        exact HC.out u v HR.out.1 HR.out.2.1 HR.out.2.2.1 HR.out.2.2.2 _ (HBW.out.trans (x.below.mono (show base ≤ wo.heap.size from Nat.le_trans hbw hgr.size)))))
      have l1 := fun x : Later wo => lat_cell x c1
      have l2 := fun x : Later wo => lat_cell x c2
      clear hz hu hv'
      clear hq
      by_cases hlv : z < 0
      · have HE := Lib.hid (show bsr p i q = bsr p a m by rw [bsr_no hlt HQ.out (by rw [HP.out]; simp only [Bool.not_eq_false', decide_eq_true_eq]; exact HK.out.1 hlv)]; exact HB)
        go_wp2_with fail
        refine wp_region_later (by kernel_rfl) (by kernel_rfl) ?_
        repeat (go_big_quiet_step (exact lat_call (hcl.out _)))
        refine wpQuiet_nil ?_
        intro w4 hb4
        have HROW4 := Lib.hid (hrow.bs hb4)
        have HGR4 := Lib.hid (grown_below hgr hb4)
        clear l1 l2 c1 c2 hb4 hrow hgr
        go_wp2
        go_roundw
        case rel => exact ⟨i, q, hmi, by have := HQ.out; omega, by have := HQ.out; omega, rfl, rfl, HE.out, HROW4.out, HGR4.out⟩
        case measure => (have := HQ.out; simp [intOf]; try omega)
      · have HE := Lib.hid (show bsr p (q + 1) j = bsr p a m by rw [bsr_yes hlt HQ.out (by rw [HP.out]; simp only [Bool.not_eq_true', decide_eq_false_iff_not]; exact fun h => hlv (HK.out.2 h))]; exact HB)
        have e4 : (!decide (z < 0)) = true := by simp; omega
        go_wp2_with fail
        refine wp_region_later (by kernel_rfl) (by kernel_rfl) ?_
        repeat (go_big_quiet_step (exact lat_call (hcl.out _)))
        refine wpQuiet_nil ?_
        intro w4 hb4
        have HROW4 := Lib.hid (hrow.bs hb4)
        have HGR4 := Lib.hid (grown_below hgr hb4)
        clear l1 l2 c1 c2 hb4 hrow hgr
        go_wp2
        go_roundw
        case rel => exact ⟨q + 1, j, by have := HQ.out; omega, by have := HQ.out; omega, hjb, by go_num, rfl, HE.out, HROW4.out, HGR4.out⟩
        case measure => (have := HQ.out; simp [intOf]; try omega)
    · have HE := Lib.hid (show bsr p a m = i by rw [← HB]; exact bsr_end hlt)
      rw [HE.out]
      have i1 : ¬ (i : Int) < (j : Int) := by omega
      go_wp2
      go_loopw [17] (fun vk wr => ∃ t : Nat, t ≤ m - i ∧ vk = .int .i64 ((m - t : Nat) : Int) ∧ Row wr base g n c (mvDn m t f) ∧ w.grownBy wr (some g)) (fun vk _ => (intOf vk).toNat)
      case atStart => exact ⟨0, by omega, by first | rfl | go_num, hrow, hgr⟩
      case round =>
        obtain ⟨wq, rfl⟩ : ∃ wq : World, wq = wr := ⟨_, rfl⟩
        obtain ⟨t, ht, rfl, hrow2, hgr2⟩ := hrel
        obtain ⟨k, hk⟩ : ∃ k, k = m - t := ⟨_, rfl⟩
        rw [← hk]
        by_cases hlt2 : i < k
        · obtain ⟨G, hG⟩ : ∃ G, G = mvDn m t f := ⟨_, rfl⟩
          rw [← hG] at hrow2
          obtain ⟨k1, hk1⟩ : ∃ k1, k1 = k - 1 := ⟨_, rfl⟩
          have HS := Lib.hid (show mvDn m (t + 1) f = fsw G k k1 by rw [hk1, hk, hG]; rfl)
          have d1 := hrow2.cell (show k < n by omega)
          have d2 := hrow2.cell (show k1 < n by omega)
          have g1 := hrow2.froz k
          have g2 := hrow2.froz k1
          obtain ⟨u, hu⟩ : ∃ u, u = G k := ⟨_, rfl⟩
          obtain ⟨v, hv'⟩ : ∃ v, v = G k1 := ⟨_, rfl⟩
          rw [← hu] at d1
          rw [← hv'] at d2
          have d3 := hrow2.two (p := k) hv' (show k1 < n by omega)
          have HROW := Lib.hid hrow2
          have HU := Lib.hid hu
          have HV2 := Lib.hid hv'
          have HKK := Lib.hid (show k = m - t ∧ k1 = k - 1 from ⟨hk, hk1⟩)
          have j1 : (i : Int) < (k : Int) := by omega
          have j2 : (k : Int) - 1 = (k1 : Int) := by omega
          have j3 : (k : Int) < (n : Int) := by omega
          have j4 : (k1 : Int) < (n : Int) := by omega
          clear hG hk hk1 hu hv' hrow2
          go_wp2_with fail
          go_region
          go_wp2
          go_roundw
          case rel =>
            refine ⟨t + 1, by have := HKK.out; omega, by have := HKK.out; first | rfl | go_num | (congr 1; omega), ?_, ?_⟩
            · rw [HS.out, HU.out, HV2.out]
              exact HROW.out.sw'
            · exact grown_drew (grown_trans hgr2 (HROW.out.grown k k1 _ _))
          case measure => (have := HKK.out; simp [intOf]; try omega)
        · have ht2 : t = m - i := by omega
          have j1 : ¬ (i : Int) < (k : Int) := by omega
          have HT := Lib.hid (show mvDn m (m - i) f = mvDn m t f by rw [ht2])
          clear ht2 hk
          go_wp2
          (try simp only [Exit.inBlock, Exit.then]); refine bodyPost_ret (results_none rfl _ _ _) rfl ?_
          exact ⟨rfl, by rw [HE.out, HT.out]; exact hrow2, hgr2⟩
end Go.Proofs.YtmfoaggohlfflaaGreatDoor

/-! ### slices.SortStableFunc over []int64: the recursive merge, the whole sort. -/
namespace Go.Proofs.YtmfoaggohlfflaaGreatDoor
open Go.RowKit

theorem sym_main {key : Int → Int} {t a m b : Nat} {f : Nat → Int} (c1 : ¬ m - a = 1) (c2 : ¬ b - m = 1) {mid s en : Nat} (hm : mid = (a + b) / 2) (hs : s = symT key f a m b) (he : en = mid + m - s) :
    sym key (t + 1) a m b f = if mid < en ∧ en < b then sym key t mid en b (if a < s ∧ s < mid then sym key t a s mid (if s < m ∧ m < en then rot m (m - s) (en - m) f else f) else (if s < m ∧ m < en then rot m (m - s) (en - m) f else f))
      else (if a < s ∧ s < mid then sym key t a s mid (if s < m ∧ m < en then rot m (m - s) (en - m) f else f) else (if s < m ∧ m < en then rot m (m - s) (en - m) f else f)) := by
  subst hm hs he
  simp only [sym]
  rw [if_neg c1, if_neg c2]
theorem symP_yes {key : Int → Int} {f : Nat → Int} {N c x : Nat} (hx : x = N - 1 - c) (h : ¬ key (f x) < key (f c)) : symP key f N c = true := by
  subst hx
  unfold symP
  simpa using h
theorem symP_no {key : Int → Int} {f : Nat → Int} {N c x : Nat} (hx : x = N - 1 - c) (h : key (f x) < key (f c)) : symP key f N c = false := by
  subst hx
  unfold symP
  simpa using h

set_option maxRecDepth 20000 in
set_option maxHeartbeats 40000000 in
theorem symMerge_any (base g n c : Nat) (F : FuncId) (cb : Array Value) (cf : Int → Int → Int) (key : Int → Int) (eg : ∀ args w, (callFunc F args).run Tryz.prog w = .ok (.enter F args) w)
    (hcf : ∀ x y : Int, 0 ≤ x → x < n → 0 ≤ y → y < n → (cf x y < 0 ↔ key x < key y)) (hn : n ≤ 1048576) : ∀ (t a m b : Nat) (za zm zb : Int) (f : Nat → Int) (w : World), za = (a : Int) → zm = (m : Int) → zb = (b : Int) → CmpOk F cb cf base n w → Row w base g n c f → Vals f n → a < m → m < b → b ≤ n → b - a ≤ t →
    Calls Tryz.prog 204 #[.slice (some ⟨g, 0, none⟩) n c, .int .i64 za, .int .i64 zm, .int .i64 zb, .func (.func F) #[] cb] w fun e w' => e = .returned (.tuple #[]) ∧ Row w' base g n c (sym key t a m b f) ∧ w.grownBy w' (some g) := by
  intro t
  induction t with
  | zero => intro a m b za zm zb f w _ _ _ _ _ _ h1 h2 _ h3; omega
  | succ t ih =>
    intro a m b za zm zb f w e1 e2 e3 hcmp h hv ham hmb hb hbt
    subst e1 e2 e3
    by_cases c1 : m - a = 1
    · have := symLeft_any base g n c a m b F cb cf key f w eg hcmp hcf h hv c1 hmb hb hn
      simp only [sym]
      rw [if_pos c1]
      exact this
    · by_cases c2 : b - m = 1
      · have := symRight_any base g n c a m b F cb cf key f w eg hcmp hcf h hv ham c1 c2 hb hn
        simp only [sym]
        rw [if_neg c1, if_pos c2]
        exact this
      · have HIH := Lib.hid ih
        have HC := Lib.hid hcmp
        have HF := Lib.hid hcf
        have HV := Lib.hid hv
        obtain ⟨hbg, hgw⟩ := h.base
        have hbw : base ≤ w.heap.size := by omega
        obtain ⟨mid, hmid⟩ : ∃ mid, mid = (a + b) / 2 := ⟨_, rfl⟩
        obtain ⟨N, hN⟩ : ∃ N, N = mid + m := ⟨_, rfl⟩
        obtain ⟨N1, hN1⟩ : ∃ N1, N1 = N - 1 := ⟨_, rfl⟩
        have HMID := Lib.hid hmid
        have HN := Lib.hid hN
        have HN1 := Lib.hid hN1
        have HC12 := Lib.hid (And.intro c1 c2)
        have HSO := Lib.hid (symS_ok ham hmb)
        have hba : b - a ≤ t + 1 := hbt
        have q1 : (((m : Int) - (a : Int)) == 1) = false := beq_f (by omega)
        have q2 : (((b : Int) - (m : Int)) == 1) = false := beq_f (by omega)
        have q3 : ((a : Int) + (b : Int)) / 2 = (mid : Int) := by omega
        have q4 : (mid : Int) + (m : Int) = (N : Int) := by omega
        have q5 : (N : Int) - 1 = (N1 : Int) := by omega
        have q6 : N ≤ 4194304 := by omega
        clear ih hcmp hcf hv c1 c2 hbt
        by_cases hmm : mid < m
        · have HSS := Lib.hid (show symS a m b = (N - b, mid) by unfold symS; rw [← HMID.out, if_pos hmm, HN.out])
          obtain ⟨s0, hs0⟩ : ∃ s0, s0 = N - b := ⟨_, rfl⟩
          obtain ⟨r0, hr0⟩ : ∃ r0, r0 = mid := ⟨_, rfl⟩
          have q7 : (mid : Int) < (m : Int) := by omega
          have q8 : (N : Int) - (b : Int) = (s0 : Int) := by omega
          have HST := Lib.hid (show (s0 : Int) = (N : Int) - (b : Int) ∧ (r0 : Int) = (mid : Int) by constructor <;> omega)
          rw [← hs0, ← hr0] at HSS
          have HSO2 := HSO.out
          rw [HSS.out, ← HMID.out, ← HN.out] at HSO2
          dsimp only at HSO2
          have HSX := Lib.hid HSO2
          have HST2 := Lib.hid (show symT key f a m b = bsr (symP key f N) s0 r0 by unfold symT; rw [HSS.out, ← HMID.out, ← HN.out])
          have hr0n : r0 ≤ n := by omega
          clear HSO2 hs0 hr0 hmm hmid hN hN1
          go_enter Tryz.func204, Tryz.ntmps204
          go_wp2
          go_loopw [20, 21] (fun vi vj wr => ∃ (i j : Nat), s0 ≤ i ∧ i ≤ j ∧ j ≤ r0 ∧ vi = .int .i64 i ∧ vj = .int .i64 j ∧ Hid (bsr (symP key f N) i j = symT key f a m b) ∧ Row wr base g n c f ∧ w.grownBy wr (some g)) (fun vi vj _ => (intOf vj).toNat - (intOf vi).toNat)
          case atStart => exact ⟨s0, r0, Nat.le_refl _, HSX.out.2.1, Nat.le_refl _, by first | rfl | rw [HST.out.1], by first | rfl | rw [HST.out.2], HST2.out.symm, h, World.grownBy.refl w _⟩
          case round =>
            obtain ⟨wo, rfl⟩ : ∃ wo : World, wo = wr := ⟨_, rfl⟩
            obtain ⟨i, j, hmi, hij, hjb, rfl, rfl, HB, hrow, hgr⟩ := hrel
            by_cases hlt : i < j
            · have HBW := Lib.hid (grown_base hgr hbg hbw)
              obtain ⟨q, hq⟩ : ∃ q, q = (i + j) / 2 := ⟨_, rfl⟩
              have HQ := Lib.hid hq
              have hXX := HSX.out
              obtain ⟨x, hx⟩ : ∃ x, x = N - 1 - q := ⟨_, rfl⟩
              have HX := Lib.hid hx
              have hq1 : q < n := by omega
              have hx1 : x < n := by omega
              have i1 : (i : Int) < (j : Int) := by omega
              have i2 : ((i : Int) + (j : Int)) / 2 = (q : Int) := by omega
              have i3 : (q : Int) < (n : Int) := by omega
              have i4 : (x : Int) < (n : Int) := by omega
              have i5 : IntKind.i64.wrap ((N1 : Int) - (q : Int)) = (x : Int) := by have := HN1.out; rw [IntWalk.i64_in _ (by omega)]; omega
              have i6 : (N1 : Int) - (q : Int) = (x : Int) := by have := HN1.out; omega
              obtain ⟨u, hu⟩ : ∃ u, u = f x := ⟨_, rfl⟩
              obtain ⟨v, hv'⟩ : ∃ v, v = f q := ⟨_, rfl⟩
              have d1 := hrow.cell hx1
              have d2 := hrow.cell hq1
              rw [← hu] at d1
              rw [← hv'] at d2
              have HR := Lib.hid (show 0 ≤ u ∧ u < n ∧ 0 ≤ v ∧ v < n by rw [hu, hv']; exact ⟨(HV.out _ hx1).1, (HV.out _ hx1).2, (HV.out _ hq1).1, (HV.out _ hq1).2⟩)
              have HK := Lib.hid (show cf u v < 0 ↔ key (f x) < key (f q) by rw [← hu, ← hv']; exact HF.out u v HR.out.1 HR.out.2.1 HR.out.2.2.1 HR.out.2.2.2)
              obtain ⟨z, hz⟩ : ∃ z, z = cf u v := ⟨_, rfl⟩
              have HZ := Lib.hid hz
              rw [← hz] at HK
              have hcl := Lib.hid (fun y : Later wo => (show Calls Tryz.prog F (#[.int .i64 u, .int .i64 v] ++ cb) y.val fun e w'' => e = .returned (.int .i64 z) ∧ Below y.val.heap.size y.val w'' by
                rw [HZ.out]
                exact HC.out u v HR.out.1 HR.out.2.1 HR.out.2.2.1 HR.out.2.2.2 _ (HBW.out.trans (y.below.mono (show base ≤ wo.heap.size from Nat.le_trans hbw hgr.size)))))
              have l1 := fun x : Later wo => lat_cell x d1
              have l2 := fun x : Later wo => lat_cell x d2
              clear hz hu hv' hq hx hXX
              by_cases hlv : z < 0
              · have HE := Lib.hid (show bsr (symP key f N) i q = symT key f a m b by rw [bsr_no hlt HQ.out (symP_no HX.out (HK.out.1 hlv))]; exact HB)
                go_wp2_with fail
                refine wp_region_later (by kernel_rfl) (by kernel_rfl) ?_
                repeat (go_big_quiet_step (exact lat_call (hcl.out _)))
                refine wpQuiet_nil ?_
                intro w4 hb4
                have HROW4 := Lib.hid (hrow.bs hb4)
                have HGR4 := Lib.hid (grown_below hgr hb4)
                clear l1 l2 d1 d2 hb4 hrow hgr i5 i6
                go_wp2
                go_roundw
                case rel => exact ⟨i, q, hmi, by have := HQ.out; omega, by have := HQ.out; omega, rfl, rfl, HE.out, HROW4.out, HGR4.out⟩
                case measure => (have := HQ.out; simp [intOf]; try omega)
              · have HE := Lib.hid (show bsr (symP key f N) (q + 1) j = symT key f a m b by rw [bsr_yes hlt HQ.out (symP_yes HX.out (fun h => hlv (HK.out.2 h)))]; exact HB)
                have e4 : (!decide (z < 0)) = true := by simp; omega
                go_wp2_with fail
                refine wp_region_later (by kernel_rfl) (by kernel_rfl) ?_
                repeat (go_big_quiet_step (exact lat_call (hcl.out _)))
                refine wpQuiet_nil ?_
                intro w4 hb4
                have HROW4 := Lib.hid (hrow.bs hb4)
                have HGR4 := Lib.hid (grown_below hgr hb4)
                clear l1 l2 d1 d2 hb4 hrow hgr i5 i6
                go_wp2
                go_roundw
                case rel => exact ⟨q + 1, j, by have := HQ.out; omega, by have := HQ.out; omega, hjb, by go_num, rfl, HE.out, HROW4.out, HGR4.out⟩
                case measure => (have := HQ.out; simp [intOf]; try omega)
            · have HE := Lib.hid (show i = symT key f a m b by rw [← HB]; exact (bsr_end hlt).symm)
              have hXX := HSX.out
              obtain ⟨en, hen⟩ : ∃ en, en = mid + m - i := ⟨_, rfl⟩
              have HEN := Lib.hid (show en = mid + m - i from hen)
              have HFIN := Lib.hid (sym_main (t := t) HC12.out.1 HC12.out.2 HMID.out HE.out HEN.out)
              have HBW := Lib.hid (grown_base hgr hbg hbw)
              have HCW := Lib.hid (HC.out.later HBW.out)
              have i1 : ¬ (i : Int) < (j : Int) := by omega
              have i2 : (N : Int) - (i : Int) = (en : Int) := by have := HN.out; omega
              have HLE := Lib.hid (show i ≤ m ∧ i ≤ mid ∧ mid - a ≤ t ∧ b - mid ≤ t ∧ mid ≤ n ∧ en ≤ b ∧ a ≤ i ∧ m ≤ en ∧ mid ≤ en by have := HMID.out; have := HN.out; omega)
              have hbg2 : base ≤ wo.heap.size := Nat.le_trans hbw hgr.size
              clear hen hXX
              rcases (show (i < m ∧ m < en) ∨ (¬ i < m) ∨ (i < m ∧ ¬ m < en) by omega) with y0 | y0 | y0
              · have f0 : (i : Int) < (m : Int) := by omega
                have f1 : (m : Int) < (en : Int) := by omega
                rcases (show (a < i ∧ i < mid) ∨ (¬ a < i) ∨ (a < i ∧ ¬ i < mid) by omega) with y1 | y1 | y1
                · have f2 : (a : Int) < (i : Int) := by omega
                  have f3 : (i : Int) < (mid : Int) := by omega
                  rcases (show (mid < en ∧ en < b) ∨ (¬ mid < en) ∨ (mid < en ∧ ¬ en < b) by omega) with y2 | y2 | y2
                  · have f4 : (mid : Int) < (en : Int) := by omega
                    have f5 : (en : Int) < (b : Int) := by omega
                    have K0 := Lib.hid (show (i < m ∧ m < en) by omega)
                    have K1 := Lib.hid (show (a < i ∧ i < mid) by omega)
                    have K2 := Lib.hid (show (mid < en ∧ en < b) by omega)
                    clear y0 y1 y2
                    go_wp2_with fail
                    refine (rotate_z base g n c _ _ _ _ f _ i m en rfl rfl (by first | rfl | omega) hrow K0.out.1 K0.out.2 (by have := HLE.out; omega) hn).mono ?_; rintro e w1 ⟨rfl, hr1, hg1⟩
                    have HB1 := Lib.hid (grown_base hg1 hbg hbg2)
                    have HC1 := Lib.hid (HCW.out.later HB1.out)
                    have HV1 := Lib.hid (HV.out.perm (perm_rot (n := n) _ m (m - i) (en - m) f (Nat.le_refl _) (by omega) (by have := HLE.out; have := K0.out; omega) (by have := K0.out; omega) (by have := K0.out; omega)))
                    have hbg3 : base ≤ w1.heap.size := Nat.le_trans hbg2 hg1.size
                    go_wp2_with fail
                    refine (HIH.out a i mid _ _ _ _ _ rfl rfl rfl HC1.out hr1 HV1.out K1.out.1 K1.out.2 (by have := HLE.out; omega) (by have := HLE.out; omega)).mono ?_; rintro e w2 ⟨rfl, hr2, hg2⟩
                    have HB2 := Lib.hid (grown_base hg2 hbg hbg3)
                    have HC2 := Lib.hid (HC1.out.later HB2.out)
                    have HV2 := Lib.hid (HV1.out.perm (perm_sym (key := key) (n := n) t a i mid _ K1.out.1 K1.out.2 (by have := HLE.out; omega)))
                    go_wp2_with fail
                    refine (HIH.out mid en b _ _ _ _ _ rfl (by first | rfl | omega) rfl HC2.out hr2 HV2.out K2.out.1 K2.out.2 hb (by have := HLE.out; omega)).mono ?_; rintro e w3 ⟨rfl, hr3, hg3⟩
                    go_wp2
                    all_goals go_end0
                    all_goals exact ⟨rfl, by rw [HFIN.out, if_pos K0.out, if_pos K1.out, if_pos K2.out]; exact hr3, (grown_trans (grown_trans (grown_trans hgr hg1) hg2) hg3)⟩
                  · have f4 : ¬ (mid : Int) < (en : Int) := by omega
                    have K0 := Lib.hid (show (i < m ∧ m < en) by omega)
                    have K1 := Lib.hid (show (a < i ∧ i < mid) by omega)
                    have K2 := Lib.hid (show ¬ (mid < en ∧ en < b) by omega)
                    clear y0 y1 y2
                    go_wp2_with fail
                    refine (rotate_z base g n c _ _ _ _ f _ i m en rfl rfl (by first | rfl | omega) hrow K0.out.1 K0.out.2 (by have := HLE.out; omega) hn).mono ?_; rintro e w1 ⟨rfl, hr1, hg1⟩
                    have HB1 := Lib.hid (grown_base hg1 hbg hbg2)
                    have HC1 := Lib.hid (HCW.out.later HB1.out)
                    have HV1 := Lib.hid (HV.out.perm (perm_rot (n := n) _ m (m - i) (en - m) f (Nat.le_refl _) (by omega) (by have := HLE.out; have := K0.out; omega) (by have := K0.out; omega) (by have := K0.out; omega)))
                    have hbg3 : base ≤ w1.heap.size := Nat.le_trans hbg2 hg1.size
                    go_wp2_with fail
                    refine (HIH.out a i mid _ _ _ _ _ rfl rfl rfl HC1.out hr1 HV1.out K1.out.1 K1.out.2 (by have := HLE.out; omega) (by have := HLE.out; omega)).mono ?_; rintro e w2 ⟨rfl, hr2, hg2⟩
                    have HB2 := Lib.hid (grown_base hg2 hbg hbg3)
                    have HC2 := Lib.hid (HC1.out.later HB2.out)
                    have HV2 := Lib.hid (HV1.out.perm (perm_sym (key := key) (n := n) t a i mid _ K1.out.1 K1.out.2 (by have := HLE.out; omega)))
                    go_wp2
                    all_goals go_end0
                    all_goals exact ⟨rfl, by rw [HFIN.out, if_pos K0.out, if_pos K1.out, if_neg K2.out]; exact hr2, (grown_trans (grown_trans hgr hg1) hg2)⟩
                  · have f4 : (mid : Int) < (en : Int) := by omega
                    have f5 : ¬ (en : Int) < (b : Int) := by omega
                    have K0 := Lib.hid (show (i < m ∧ m < en) by omega)
                    have K1 := Lib.hid (show (a < i ∧ i < mid) by omega)
                    have K2 := Lib.hid (show ¬ (mid < en ∧ en < b) by omega)
                    clear y0 y1 y2
                    go_wp2_with fail
                    refine (rotate_z base g n c _ _ _ _ f _ i m en rfl rfl (by first | rfl | omega) hrow K0.out.1 K0.out.2 (by have := HLE.out; omega) hn).mono ?_; rintro e w1 ⟨rfl, hr1, hg1⟩
                    have HB1 := Lib.hid (grown_base hg1 hbg hbg2)
                    have HC1 := Lib.hid (HCW.out.later HB1.out)
                    have HV1 := Lib.hid (HV.out.perm (perm_rot (n := n) _ m (m - i) (en - m) f (Nat.le_refl _) (by omega) (by have := HLE.out; have := K0.out; omega) (by have := K0.out; omega) (by have := K0.out; omega)))
                    have hbg3 : base ≤ w1.heap.size := Nat.le_trans hbg2 hg1.size
                    go_wp2_with fail
                    refine (HIH.out a i mid _ _ _ _ _ rfl rfl rfl HC1.out hr1 HV1.out K1.out.1 K1.out.2 (by have := HLE.out; omega) (by have := HLE.out; omega)).mono ?_; rintro e w2 ⟨rfl, hr2, hg2⟩
                    have HB2 := Lib.hid (grown_base hg2 hbg hbg3)
                    have HC2 := Lib.hid (HC1.out.later HB2.out)
                    have HV2 := Lib.hid (HV1.out.perm (perm_sym (key := key) (n := n) t a i mid _ K1.out.1 K1.out.2 (by have := HLE.out; omega)))
                    go_wp2
                    all_goals go_end0
                    all_goals exact ⟨rfl, by rw [HFIN.out, if_pos K0.out, if_pos K1.out, if_neg K2.out]; exact hr2, (grown_trans (grown_trans hgr hg1) hg2)⟩
                · have f2 : ¬ (a : Int) < (i : Int) := by omega
                  rcases (show (mid < en ∧ en < b) ∨ (¬ mid < en) ∨ (mid < en ∧ ¬ en < b) by omega) with y2 | y2 | y2
                  · have f4 : (mid : Int) < (en : Int) := by omega
                    have f5 : (en : Int) < (b : Int) := by omega
                    exfalso; have := HLE.out; have := HEN.out; have := HN.out; omega
                  · have f4 : ¬ (mid : Int) < (en : Int) := by omega
                    have K0 := Lib.hid (show (i < m ∧ m < en) by omega)
                    have K1 := Lib.hid (show ¬ (a < i ∧ i < mid) by omega)
                    have K2 := Lib.hid (show ¬ (mid < en ∧ en < b) by omega)
                    clear y0 y1 y2
                    go_wp2_with fail
                    refine (rotate_z base g n c _ _ _ _ f _ i m en rfl rfl (by first | rfl | omega) hrow K0.out.1 K0.out.2 (by have := HLE.out; omega) hn).mono ?_; rintro e w1 ⟨rfl, hr1, hg1⟩
                    have HB1 := Lib.hid (grown_base hg1 hbg hbg2)
                    have HC1 := Lib.hid (HCW.out.later HB1.out)
                    have HV1 := Lib.hid (HV.out.perm (perm_rot (n := n) _ m (m - i) (en - m) f (Nat.le_refl _) (by omega) (by have := HLE.out; have := K0.out; omega) (by have := K0.out; omega) (by have := K0.out; omega)))
                    have hbg3 : base ≤ w1.heap.size := Nat.le_trans hbg2 hg1.size
                    go_wp2
                    all_goals go_end0
                    all_goals exact ⟨rfl, by rw [HFIN.out, if_pos K0.out, if_neg K1.out, if_neg K2.out]; exact hr1, (grown_trans hgr hg1)⟩
                  · have f4 : (mid : Int) < (en : Int) := by omega
                    have f5 : ¬ (en : Int) < (b : Int) := by omega
                    have K0 := Lib.hid (show (i < m ∧ m < en) by omega)
                    have K1 := Lib.hid (show ¬ (a < i ∧ i < mid) by omega)
                    have K2 := Lib.hid (show ¬ (mid < en ∧ en < b) by omega)
                    clear y0 y1 y2
                    go_wp2_with fail
                    refine (rotate_z base g n c _ _ _ _ f _ i m en rfl rfl (by first | rfl | omega) hrow K0.out.1 K0.out.2 (by have := HLE.out; omega) hn).mono ?_; rintro e w1 ⟨rfl, hr1, hg1⟩
                    have HB1 := Lib.hid (grown_base hg1 hbg hbg2)
                    have HC1 := Lib.hid (HCW.out.later HB1.out)
                    have HV1 := Lib.hid (HV.out.perm (perm_rot (n := n) _ m (m - i) (en - m) f (Nat.le_refl _) (by omega) (by have := HLE.out; have := K0.out; omega) (by have := K0.out; omega) (by have := K0.out; omega)))
                    have hbg3 : base ≤ w1.heap.size := Nat.le_trans hbg2 hg1.size
                    go_wp2
                    all_goals go_end0
                    all_goals exact ⟨rfl, by rw [HFIN.out, if_pos K0.out, if_neg K1.out, if_neg K2.out]; exact hr1, (grown_trans hgr hg1)⟩
                · have f2 : (a : Int) < (i : Int) := by omega
                  have f3 : ¬ (i : Int) < (mid : Int) := by omega
                  rcases (show (mid < en ∧ en < b) ∨ (¬ mid < en) ∨ (mid < en ∧ ¬ en < b) by omega) with y2 | y2 | y2
                  · have f4 : (mid : Int) < (en : Int) := by omega
                    have f5 : (en : Int) < (b : Int) := by omega
                    exfalso; have := HLE.out; have := HEN.out; have := HN.out; omega
                  · have f4 : ¬ (mid : Int) < (en : Int) := by omega
                    exfalso; have := HLE.out; have := HEN.out; have := HN.out; omega
                  · have f4 : (mid : Int) < (en : Int) := by omega
                    have f5 : ¬ (en : Int) < (b : Int) := by omega
                    exfalso; have := HLE.out; have := HEN.out; have := HN.out; omega
              · have f0 : ¬ (i : Int) < (m : Int) := by omega
                rcases (show (a < i ∧ i < mid) ∨ (¬ a < i) ∨ (a < i ∧ ¬ i < mid) by omega) with y1 | y1 | y1
                · have f2 : (a : Int) < (i : Int) := by omega
                  have f3 : (i : Int) < (mid : Int) := by omega
                  rcases (show (mid < en ∧ en < b) ∨ (¬ mid < en) ∨ (mid < en ∧ ¬ en < b) by omega) with y2 | y2 | y2
                  · have f4 : (mid : Int) < (en : Int) := by omega
                    have f5 : (en : Int) < (b : Int) := by omega
                    exfalso; have := HLE.out; have := HEN.out; have := HN.out; omega
                  · have f4 : ¬ (mid : Int) < (en : Int) := by omega
                    have K0 := Lib.hid (show ¬ (i < m ∧ m < en) by omega)
                    have K1 := Lib.hid (show (a < i ∧ i < mid) by omega)
                    have K2 := Lib.hid (show ¬ (mid < en ∧ en < b) by omega)
                    clear y0 y1 y2
                    go_wp2_with fail
                    refine (HIH.out a i mid _ _ _ _ _ rfl rfl rfl HCW.out hrow HV.out K1.out.1 K1.out.2 (by have := HLE.out; omega) (by have := HLE.out; omega)).mono ?_; rintro e w2 ⟨rfl, hr2, hg2⟩
                    have HB2 := Lib.hid (grown_base hg2 hbg hbg2)
                    have HC2 := Lib.hid (HCW.out.later HB2.out)
                    have HV2 := Lib.hid (HV.out.perm (perm_sym (key := key) (n := n) t a i mid _ K1.out.1 K1.out.2 (by have := HLE.out; omega)))
                    go_wp2
                    all_goals go_end0
                    all_goals exact ⟨rfl, by rw [HFIN.out, if_neg K0.out, if_pos K1.out, if_neg K2.out]; exact hr2, (grown_trans hgr hg2)⟩
                  · have f4 : (mid : Int) < (en : Int) := by omega
                    have f5 : ¬ (en : Int) < (b : Int) := by omega
                    exfalso; have := HLE.out; have := HEN.out; have := HN.out; omega
                · have f2 : ¬ (a : Int) < (i : Int) := by omega
                  rcases (show (mid < en ∧ en < b) ∨ (¬ mid < en) ∨ (mid < en ∧ ¬ en < b) by omega) with y2 | y2 | y2
                  · have f4 : (mid : Int) < (en : Int) := by omega
                    have f5 : (en : Int) < (b : Int) := by omega
                    exfalso; have := HLE.out; have := HEN.out; have := HN.out; omega
                  · have f4 : ¬ (mid : Int) < (en : Int) := by omega
                    have K0 := Lib.hid (show ¬ (i < m ∧ m < en) by omega)
                    have K1 := Lib.hid (show ¬ (a < i ∧ i < mid) by omega)
                    have K2 := Lib.hid (show ¬ (mid < en ∧ en < b) by omega)
                    clear y0 y1 y2
                    go_wp2
                    all_goals go_end0
                    all_goals exact ⟨rfl, by rw [HFIN.out, if_neg K0.out, if_neg K1.out, if_neg K2.out]; exact hrow, hgr⟩
                  · have f4 : (mid : Int) < (en : Int) := by omega
                    have f5 : ¬ (en : Int) < (b : Int) := by omega
                    exfalso; have := HLE.out; have := HEN.out; have := HN.out; omega
                · have f2 : (a : Int) < (i : Int) := by omega
                  have f3 : ¬ (i : Int) < (mid : Int) := by omega
                  rcases (show (mid < en ∧ en < b) ∨ (¬ mid < en) ∨ (mid < en ∧ ¬ en < b) by omega) with y2 | y2 | y2
                  · have f4 : (mid : Int) < (en : Int) := by omega
                    have f5 : (en : Int) < (b : Int) := by omega
                    exfalso; have := HLE.out; have := HEN.out; have := HN.out; omega
                  · have f4 : ¬ (mid : Int) < (en : Int) := by omega
                    have K0 := Lib.hid (show ¬ (i < m ∧ m < en) by omega)
                    have K1 := Lib.hid (show ¬ (a < i ∧ i < mid) by omega)
                    have K2 := Lib.hid (show ¬ (mid < en ∧ en < b) by omega)
                    clear y0 y1 y2
                    go_wp2
                    all_goals go_end0
                    all_goals exact ⟨rfl, by rw [HFIN.out, if_neg K0.out, if_neg K1.out, if_neg K2.out]; exact hrow, hgr⟩
                  · have f4 : (mid : Int) < (en : Int) := by omega
                    have f5 : ¬ (en : Int) < (b : Int) := by omega
                    exfalso; have := HLE.out; have := HEN.out; have := HN.out; omega
              · have f0 : (i : Int) < (m : Int) := by omega
                have f1 : ¬ (m : Int) < (en : Int) := by omega
                rcases (show (a < i ∧ i < mid) ∨ (¬ a < i) ∨ (a < i ∧ ¬ i < mid) by omega) with y1 | y1 | y1
                · have f2 : (a : Int) < (i : Int) := by omega
                  have f3 : (i : Int) < (mid : Int) := by omega
                  rcases (show (mid < en ∧ en < b) ∨ (¬ mid < en) ∨ (mid < en ∧ ¬ en < b) by omega) with y2 | y2 | y2
                  · have f4 : (mid : Int) < (en : Int) := by omega
                    have f5 : (en : Int) < (b : Int) := by omega
                    exfalso; have := HLE.out; have := HEN.out; have := HN.out; omega
                  · have f4 : ¬ (mid : Int) < (en : Int) := by omega
                    exfalso; have := HLE.out; have := HEN.out; have := HN.out; omega
                  · have f4 : (mid : Int) < (en : Int) := by omega
                    have f5 : ¬ (en : Int) < (b : Int) := by omega
                    exfalso; have := HLE.out; have := HEN.out; have := HN.out; omega
                · have f2 : ¬ (a : Int) < (i : Int) := by omega
                  rcases (show (mid < en ∧ en < b) ∨ (¬ mid < en) ∨ (mid < en ∧ ¬ en < b) by omega) with y2 | y2 | y2
                  · have f4 : (mid : Int) < (en : Int) := by omega
                    have f5 : (en : Int) < (b : Int) := by omega
                    exfalso; have := HLE.out; have := HEN.out; have := HN.out; omega
                  · have f4 : ¬ (mid : Int) < (en : Int) := by omega
                    have K0 := Lib.hid (show ¬ (i < m ∧ m < en) by omega)
                    have K1 := Lib.hid (show ¬ (a < i ∧ i < mid) by omega)
                    have K2 := Lib.hid (show ¬ (mid < en ∧ en < b) by omega)
                    clear y0 y1 y2
                    go_wp2
                    all_goals go_end0
                    all_goals exact ⟨rfl, by rw [HFIN.out, if_neg K0.out, if_neg K1.out, if_neg K2.out]; exact hrow, hgr⟩
                  · have f4 : (mid : Int) < (en : Int) := by omega
                    have f5 : ¬ (en : Int) < (b : Int) := by omega
                    have K0 := Lib.hid (show ¬ (i < m ∧ m < en) by omega)
                    have K1 := Lib.hid (show ¬ (a < i ∧ i < mid) by omega)
                    have K2 := Lib.hid (show ¬ (mid < en ∧ en < b) by omega)
                    clear y0 y1 y2
                    go_wp2
                    all_goals go_end0
                    all_goals exact ⟨rfl, by rw [HFIN.out, if_neg K0.out, if_neg K1.out, if_neg K2.out]; exact hrow, hgr⟩
                · have f2 : (a : Int) < (i : Int) := by omega
                  have f3 : ¬ (i : Int) < (mid : Int) := by omega
                  rcases (show (mid < en ∧ en < b) ∨ (¬ mid < en) ∨ (mid < en ∧ ¬ en < b) by omega) with y2 | y2 | y2
                  · have f4 : (mid : Int) < (en : Int) := by omega
                    have f5 : (en : Int) < (b : Int) := by omega
                    have K0 := Lib.hid (show ¬ (i < m ∧ m < en) by omega)
                    have K1 := Lib.hid (show ¬ (a < i ∧ i < mid) by omega)
                    have K2 := Lib.hid (show (mid < en ∧ en < b) by omega)
                    clear y0 y1 y2
                    go_wp2_with fail
                    refine (HIH.out mid en b _ _ _ _ _ rfl (by first | rfl | omega) rfl HCW.out hrow HV.out K2.out.1 K2.out.2 hb (by have := HLE.out; omega)).mono ?_; rintro e w3 ⟨rfl, hr3, hg3⟩
                    go_wp2
                    all_goals go_end0
                    all_goals exact ⟨rfl, by rw [HFIN.out, if_neg K0.out, if_neg K1.out, if_pos K2.out]; exact hr3, (grown_trans hgr hg3)⟩
                  · have f4 : ¬ (mid : Int) < (en : Int) := by omega
                    have K0 := Lib.hid (show ¬ (i < m ∧ m < en) by omega)
                    have K1 := Lib.hid (show ¬ (a < i ∧ i < mid) by omega)
                    have K2 := Lib.hid (show ¬ (mid < en ∧ en < b) by omega)
                    clear y0 y1 y2
                    go_wp2
                    all_goals go_end0
                    all_goals exact ⟨rfl, by rw [HFIN.out, if_neg K0.out, if_neg K1.out, if_neg K2.out]; exact hrow, hgr⟩
                  · have f4 : (mid : Int) < (en : Int) := by omega
                    have f5 : ¬ (en : Int) < (b : Int) := by omega
                    have K0 := Lib.hid (show ¬ (i < m ∧ m < en) by omega)
                    have K1 := Lib.hid (show ¬ (a < i ∧ i < mid) by omega)
                    have K2 := Lib.hid (show ¬ (mid < en ∧ en < b) by omega)
                    clear y0 y1 y2
                    go_wp2
                    all_goals go_end0
                    all_goals exact ⟨rfl, by rw [HFIN.out, if_neg K0.out, if_neg K1.out, if_neg K2.out]; exact hrow, hgr⟩
        · obtain ⟨s0, hs0⟩ : ∃ s0, s0 = a := ⟨_, rfl⟩
          obtain ⟨r0, hr0⟩ : ∃ r0, r0 = m := ⟨_, rfl⟩
          have HSS := Lib.hid (show symS a m b = (s0, r0) by rw [hs0, hr0]; unfold symS; rw [← HMID.out, if_neg hmm])
          have q7 : ¬ (mid : Int) < (m : Int) := by omega
          have HST := Lib.hid (show (s0 : Int) = (a : Int) ∧ (r0 : Int) = (m : Int) by constructor <;> omega)
          have HSO2 := HSO.out
          rw [HSS.out, ← HMID.out, ← HN.out] at HSO2
          dsimp only at HSO2
          have HSX := Lib.hid HSO2
          have HST2 := Lib.hid (show symT key f a m b = bsr (symP key f N) s0 r0 by unfold symT; rw [HSS.out, ← HMID.out, ← HN.out])
          have hr0n : r0 ≤ n := by omega
          clear HSO2 hs0 hr0 hmm hmid hN hN1
          go_enter Tryz.func204, Tryz.ntmps204
          go_wp2
          go_loopw [20, 21] (fun vi vj wr => ∃ (i j : Nat), s0 ≤ i ∧ i ≤ j ∧ j ≤ r0 ∧ vi = .int .i64 i ∧ vj = .int .i64 j ∧ Hid (bsr (symP key f N) i j = symT key f a m b) ∧ Row wr base g n c f ∧ w.grownBy wr (some g)) (fun vi vj _ => (intOf vj).toNat - (intOf vi).toNat)
          case atStart => exact ⟨s0, r0, Nat.le_refl _, HSX.out.2.1, Nat.le_refl _, by first | rfl | rw [HST.out.1], by first | rfl | rw [HST.out.2], HST2.out.symm, h, World.grownBy.refl w _⟩
          case round =>
            obtain ⟨wo, rfl⟩ : ∃ wo : World, wo = wr := ⟨_, rfl⟩
            obtain ⟨i, j, hmi, hij, hjb, rfl, rfl, HB, hrow, hgr⟩ := hrel
            by_cases hlt : i < j
            · have HBW := Lib.hid (grown_base hgr hbg hbw)
              obtain ⟨q, hq⟩ : ∃ q, q = (i + j) / 2 := ⟨_, rfl⟩
              have HQ := Lib.hid hq
              have hXX := HSX.out
              obtain ⟨x, hx⟩ : ∃ x, x = N - 1 - q := ⟨_, rfl⟩
              have HX := Lib.hid hx
              have hq1 : q < n := by omega
              have hx1 : x < n := by omega
              have i1 : (i : Int) < (j : Int) := by omega
              have i2 : ((i : Int) + (j : Int)) / 2 = (q : Int) := by omega
              have i3 : (q : Int) < (n : Int) := by omega
              have i4 : (x : Int) < (n : Int) := by omega
              have i5 : IntKind.i64.wrap ((N1 : Int) - (q : Int)) = (x : Int) := by have := HN1.out; rw [IntWalk.i64_in _ (by omega)]; omega
              have i6 : (N1 : Int) - (q : Int) = (x : Int) := by have := HN1.out; omega
              obtain ⟨u, hu⟩ : ∃ u, u = f x := ⟨_, rfl⟩
              obtain ⟨v, hv'⟩ : ∃ v, v = f q := ⟨_, rfl⟩
              have d1 := hrow.cell hx1
              have d2 := hrow.cell hq1
              rw [← hu] at d1
              rw [← hv'] at d2
              have HR := Lib.hid (show 0 ≤ u ∧ u < n ∧ 0 ≤ v ∧ v < n by rw [hu, hv']; exact ⟨(HV.out _ hx1).1, (HV.out _ hx1).2, (HV.out _ hq1).1, (HV.out _ hq1).2⟩)
              have HK := Lib.hid (show cf u v < 0 ↔ key (f x) < key (f q) by rw [← hu, ← hv']; exact HF.out u v HR.out.1 HR.out.2.1 HR.out.2.2.1 HR.out.2.2.2)
              obtain ⟨z, hz⟩ : ∃ z, z = cf u v := ⟨_, rfl⟩
              have HZ := Lib.hid hz
              rw [← hz] at HK
              have hcl := Lib.hid (fun y : Later wo => (show Calls Tryz.prog F (#[.int .i64 u, .int .i64 v] ++ cb) y.val fun e w'' => e = .returned (.int .i64 z) ∧ Below y.val.heap.size y.val w'' by
                rw [HZ.out]
                exact HC.out u v HR.out.1 HR.out.2.1 HR.out.2.2.1 HR.out.2.2.2 _ (HBW.out.trans (y.below.mono (show base ≤ wo.heap.size from Nat.le_trans hbw hgr.size)))))
              have l1 := fun x : Later wo => lat_cell x d1
              have l2 := fun x : Later wo => lat_cell x d2
              clear hz hu hv' hq hx hXX
              by_cases hlv : z < 0
              · have HE := Lib.hid (show bsr (symP key f N) i q = symT key f a m b by rw [bsr_no hlt HQ.out (symP_no HX.out (HK.out.1 hlv))]; exact HB)
                go_wp2_with fail
                refine wp_region_later (by kernel_rfl) (by kernel_rfl) ?_
                repeat (go_big_quiet_step (exact lat_call (hcl.out _)))
                refine wpQuiet_nil ?_
                intro w4 hb4
                have HROW4 := Lib.hid (hrow.bs hb4)
                have HGR4 := Lib.hid (grown_below hgr hb4)
                clear l1 l2 d1 d2 hb4 hrow hgr i5 i6
                go_wp2
                go_roundw
                case rel => exact ⟨i, q, hmi, by have := HQ.out; omega, by have := HQ.out; omega, rfl, rfl, HE.out, HROW4.out, HGR4.out⟩
                case measure => (have := HQ.out; simp [intOf]; try omega)
              · have HE := Lib.hid (show bsr (symP key f N) (q + 1) j = symT key f a m b by rw [bsr_yes hlt HQ.out (symP_yes HX.out (fun h => hlv (HK.out.2 h)))]; exact HB)
                have e4 : (!decide (z < 0)) = true := by simp; omega
                go_wp2_with fail
                refine wp_region_later (by kernel_rfl) (by kernel_rfl) ?_
                repeat (go_big_quiet_step (exact lat_call (hcl.out _)))
                refine wpQuiet_nil ?_
                intro w4 hb4
                have HROW4 := Lib.hid (hrow.bs hb4)
                have HGR4 := Lib.hid (grown_below hgr hb4)
                clear l1 l2 d1 d2 hb4 hrow hgr i5 i6
                go_wp2
                go_roundw
                case rel => exact ⟨q + 1, j, by have := HQ.out; omega, by have := HQ.out; omega, hjb, by go_num, rfl, HE.out, HROW4.out, HGR4.out⟩
                case measure => (have := HQ.out; simp [intOf]; try omega)
            · have HE := Lib.hid (show i = symT key f a m b by rw [← HB]; exact (bsr_end hlt).symm)
              have hXX := HSX.out
              obtain ⟨en, hen⟩ : ∃ en, en = mid + m - i := ⟨_, rfl⟩
              have HEN := Lib.hid (show en = mid + m - i from hen)
              have HFIN := Lib.hid (sym_main (t := t) HC12.out.1 HC12.out.2 HMID.out HE.out HEN.out)
              have HBW := Lib.hid (grown_base hgr hbg hbw)
              have HCW := Lib.hid (HC.out.later HBW.out)
              have i1 : ¬ (i : Int) < (j : Int) := by omega
              have i2 : (N : Int) - (i : Int) = (en : Int) := by have := HN.out; omega
              have HLE := Lib.hid (show i ≤ m ∧ i ≤ mid ∧ mid - a ≤ t ∧ b - mid ≤ t ∧ mid ≤ n ∧ en ≤ b ∧ a ≤ i ∧ m ≤ en ∧ mid ≤ en by have := HMID.out; have := HN.out; omega)
              have hbg2 : base ≤ wo.heap.size := Nat.le_trans hbw hgr.size
              clear hen hXX
              rcases (show (i < m ∧ m < en) ∨ (¬ i < m) ∨ (i < m ∧ ¬ m < en) by omega) with y0 | y0 | y0
              · have f0 : (i : Int) < (m : Int) := by omega
                have f1 : (m : Int) < (en : Int) := by omega
                rcases (show (a < i ∧ i < mid) ∨ (¬ a < i) ∨ (a < i ∧ ¬ i < mid) by omega) with y1 | y1 | y1
                · have f2 : (a : Int) < (i : Int) := by omega
                  have f3 : (i : Int) < (mid : Int) := by omega
                  rcases (show (mid < en ∧ en < b) ∨ (¬ mid < en) ∨ (mid < en ∧ ¬ en < b) by omega) with y2 | y2 | y2
                  · have f4 : (mid : Int) < (en : Int) := by omega
                    have f5 : (en : Int) < (b : Int) := by omega
                    have K0 := Lib.hid (show (i < m ∧ m < en) by omega)
                    have K1 := Lib.hid (show (a < i ∧ i < mid) by omega)
                    have K2 := Lib.hid (show (mid < en ∧ en < b) by omega)
                    clear y0 y1 y2
                    go_wp2_with fail
                    refine (rotate_z base g n c _ _ _ _ f _ i m en rfl rfl (by first | rfl | omega) hrow K0.out.1 K0.out.2 (by have := HLE.out; omega) hn).mono ?_; rintro e w1 ⟨rfl, hr1, hg1⟩
                    have HB1 := Lib.hid (grown_base hg1 hbg hbg2)
                    have HC1 := Lib.hid (HCW.out.later HB1.out)
                    have HV1 := Lib.hid (HV.out.perm (perm_rot (n := n) _ m (m - i) (en - m) f (Nat.le_refl _) (by omega) (by have := HLE.out; have := K0.out; omega) (by have := K0.out; omega) (by have := K0.out; omega)))
                    have hbg3 : base ≤ w1.heap.size := Nat.le_trans hbg2 hg1.size
                    go_wp2_with fail
                    refine (HIH.out a i mid _ _ _ _ _ rfl rfl rfl HC1.out hr1 HV1.out K1.out.1 K1.out.2 (by have := HLE.out; omega) (by have := HLE.out; omega)).mono ?_; rintro e w2 ⟨rfl, hr2, hg2⟩
                    have HB2 := Lib.hid (grown_base hg2 hbg hbg3)
                    have HC2 := Lib.hid (HC1.out.later HB2.out)
                    have HV2 := Lib.hid (HV1.out.perm (perm_sym (key := key) (n := n) t a i mid _ K1.out.1 K1.out.2 (by have := HLE.out; omega)))
                    go_wp2_with fail
                    refine (HIH.out mid en b _ _ _ _ _ rfl (by first | rfl | omega) rfl HC2.out hr2 HV2.out K2.out.1 K2.out.2 hb (by have := HLE.out; omega)).mono ?_; rintro e w3 ⟨rfl, hr3, hg3⟩
                    go_wp2
                    all_goals go_end0
                    all_goals exact ⟨rfl, by rw [HFIN.out, if_pos K0.out, if_pos K1.out, if_pos K2.out]; exact hr3, (grown_trans (grown_trans (grown_trans hgr hg1) hg2) hg3)⟩
                  · have f4 : ¬ (mid : Int) < (en : Int) := by omega
                    have K0 := Lib.hid (show (i < m ∧ m < en) by omega)
                    have K1 := Lib.hid (show (a < i ∧ i < mid) by omega)
                    have K2 := Lib.hid (show ¬ (mid < en ∧ en < b) by omega)
                    clear y0 y1 y2
                    go_wp2_with fail
                    refine (rotate_z base g n c _ _ _ _ f _ i m en rfl rfl (by first | rfl | omega) hrow K0.out.1 K0.out.2 (by have := HLE.out; omega) hn).mono ?_; rintro e w1 ⟨rfl, hr1, hg1⟩
                    have HB1 := Lib.hid (grown_base hg1 hbg hbg2)
                    have HC1 := Lib.hid (HCW.out.later HB1.out)
                    have HV1 := Lib.hid (HV.out.perm (perm_rot (n := n) _ m (m - i) (en - m) f (Nat.le_refl _) (by omega) (by have := HLE.out; have := K0.out; omega) (by have := K0.out; omega) (by have := K0.out; omega)))
                    have hbg3 : base ≤ w1.heap.size := Nat.le_trans hbg2 hg1.size
                    go_wp2_with fail
                    refine (HIH.out a i mid _ _ _ _ _ rfl rfl rfl HC1.out hr1 HV1.out K1.out.1 K1.out.2 (by have := HLE.out; omega) (by have := HLE.out; omega)).mono ?_; rintro e w2 ⟨rfl, hr2, hg2⟩
                    have HB2 := Lib.hid (grown_base hg2 hbg hbg3)
                    have HC2 := Lib.hid (HC1.out.later HB2.out)
                    have HV2 := Lib.hid (HV1.out.perm (perm_sym (key := key) (n := n) t a i mid _ K1.out.1 K1.out.2 (by have := HLE.out; omega)))
                    go_wp2
                    all_goals go_end0
                    all_goals exact ⟨rfl, by rw [HFIN.out, if_pos K0.out, if_pos K1.out, if_neg K2.out]; exact hr2, (grown_trans (grown_trans hgr hg1) hg2)⟩
                  · have f4 : (mid : Int) < (en : Int) := by omega
                    have f5 : ¬ (en : Int) < (b : Int) := by omega
                    have K0 := Lib.hid (show (i < m ∧ m < en) by omega)
                    have K1 := Lib.hid (show (a < i ∧ i < mid) by omega)
                    have K2 := Lib.hid (show ¬ (mid < en ∧ en < b) by omega)
                    clear y0 y1 y2
                    go_wp2_with fail
                    refine (rotate_z base g n c _ _ _ _ f _ i m en rfl rfl (by first | rfl | omega) hrow K0.out.1 K0.out.2 (by have := HLE.out; omega) hn).mono ?_; rintro e w1 ⟨rfl, hr1, hg1⟩
                    have HB1 := Lib.hid (grown_base hg1 hbg hbg2)
                    have HC1 := Lib.hid (HCW.out.later HB1.out)
                    have HV1 := Lib.hid (HV.out.perm (perm_rot (n := n) _ m (m - i) (en - m) f (Nat.le_refl _) (by omega) (by have := HLE.out; have := K0.out; omega) (by have := K0.out; omega) (by have := K0.out; omega)))
                    have hbg3 : base ≤ w1.heap.size := Nat.le_trans hbg2 hg1.size
                    go_wp2_with fail
                    refine (HIH.out a i mid _ _ _ _ _ rfl rfl rfl HC1.out hr1 HV1.out K1.out.1 K1.out.2 (by have := HLE.out; omega) (by have := HLE.out; omega)).mono ?_; rintro e w2 ⟨rfl, hr2, hg2⟩
                    have HB2 := Lib.hid (grown_base hg2 hbg hbg3)
                    have HC2 := Lib.hid (HC1.out.later HB2.out)
                    have HV2 := Lib.hid (HV1.out.perm (perm_sym (key := key) (n := n) t a i mid _ K1.out.1 K1.out.2 (by have := HLE.out; omega)))
                    go_wp2
                    all_goals go_end0
                    all_goals exact ⟨rfl, by rw [HFIN.out, if_pos K0.out, if_pos K1.out, if_neg K2.out]; exact hr2, (grown_trans (grown_trans hgr hg1) hg2)⟩
                · have f2 : ¬ (a : Int) < (i : Int) := by omega
                  rcases (show (mid < en ∧ en < b) ∨ (¬ mid < en) ∨ (mid < en ∧ ¬ en < b) by omega) with y2 | y2 | y2
                  · have f4 : (mid : Int) < (en : Int) := by omega
                    have f5 : (en : Int) < (b : Int) := by omega
                    have K0 := Lib.hid (show (i < m ∧ m < en) by omega)
                    have K1 := Lib.hid (show ¬ (a < i ∧ i < mid) by omega)
                    have K2 := Lib.hid (show (mid < en ∧ en < b) by omega)
                    clear y0 y1 y2
                    go_wp2_with fail
                    refine (rotate_z base g n c _ _ _ _ f _ i m en rfl rfl (by first | rfl | omega) hrow K0.out.1 K0.out.2 (by have := HLE.out; omega) hn).mono ?_; rintro e w1 ⟨rfl, hr1, hg1⟩
                    have HB1 := Lib.hid (grown_base hg1 hbg hbg2)
                    have HC1 := Lib.hid (HCW.out.later HB1.out)
                    have HV1 := Lib.hid (HV.out.perm (perm_rot (n := n) _ m (m - i) (en - m) f (Nat.le_refl _) (by omega) (by have := HLE.out; have := K0.out; omega) (by have := K0.out; omega) (by have := K0.out; omega)))
                    have hbg3 : base ≤ w1.heap.size := Nat.le_trans hbg2 hg1.size
                    go_wp2_with fail
                    refine (HIH.out mid en b _ _ _ _ _ rfl (by first | rfl | omega) rfl HC1.out hr1 HV1.out K2.out.1 K2.out.2 hb (by have := HLE.out; omega)).mono ?_; rintro e w3 ⟨rfl, hr3, hg3⟩
                    go_wp2
                    all_goals go_end0
                    all_goals exact ⟨rfl, by rw [HFIN.out, if_pos K0.out, if_neg K1.out, if_pos K2.out]; exact hr3, (grown_trans (grown_trans hgr hg1) hg3)⟩
                  · have f4 : ¬ (mid : Int) < (en : Int) := by omega
                    have K0 := Lib.hid (show (i < m ∧ m < en) by omega)
                    have K1 := Lib.hid (show ¬ (a < i ∧ i < mid) by omega)
                    have K2 := Lib.hid (show ¬ (mid < en ∧ en < b) by omega)
                    clear y0 y1 y2
                    go_wp2_with fail
                    refine (rotate_z base g n c _ _ _ _ f _ i m en rfl rfl (by first | rfl | omega) hrow K0.out.1 K0.out.2 (by have := HLE.out; omega) hn).mono ?_; rintro e w1 ⟨rfl, hr1, hg1⟩
                    have HB1 := Lib.hid (grown_base hg1 hbg hbg2)
                    have HC1 := Lib.hid (HCW.out.later HB1.out)
                    have HV1 := Lib.hid (HV.out.perm (perm_rot (n := n) _ m (m - i) (en - m) f (Nat.le_refl _) (by omega) (by have := HLE.out; have := K0.out; omega) (by have := K0.out; omega) (by have := K0.out; omega)))
                    have hbg3 : base ≤ w1.heap.size := Nat.le_trans hbg2 hg1.size
                    go_wp2
                    all_goals go_end0
                    all_goals exact ⟨rfl, by rw [HFIN.out, if_pos K0.out, if_neg K1.out, if_neg K2.out]; exact hr1, (grown_trans hgr hg1)⟩
                  · have f4 : (mid : Int) < (en : Int) := by omega
                    have f5 : ¬ (en : Int) < (b : Int) := by omega
                    have K0 := Lib.hid (show (i < m ∧ m < en) by omega)
                    have K1 := Lib.hid (show ¬ (a < i ∧ i < mid) by omega)
                    have K2 := Lib.hid (show ¬ (mid < en ∧ en < b) by omega)
                    clear y0 y1 y2
                    go_wp2_with fail
                    refine (rotate_z base g n c _ _ _ _ f _ i m en rfl rfl (by first | rfl | omega) hrow K0.out.1 K0.out.2 (by have := HLE.out; omega) hn).mono ?_; rintro e w1 ⟨rfl, hr1, hg1⟩
                    have HB1 := Lib.hid (grown_base hg1 hbg hbg2)
                    have HC1 := Lib.hid (HCW.out.later HB1.out)
                    have HV1 := Lib.hid (HV.out.perm (perm_rot (n := n) _ m (m - i) (en - m) f (Nat.le_refl _) (by omega) (by have := HLE.out; have := K0.out; omega) (by have := K0.out; omega) (by have := K0.out; omega)))
                    have hbg3 : base ≤ w1.heap.size := Nat.le_trans hbg2 hg1.size
                    go_wp2
                    all_goals go_end0
                    all_goals exact ⟨rfl, by rw [HFIN.out, if_pos K0.out, if_neg K1.out, if_neg K2.out]; exact hr1, (grown_trans hgr hg1)⟩
                · have f2 : (a : Int) < (i : Int) := by omega
                  have f3 : ¬ (i : Int) < (mid : Int) := by omega
                  rcases (show (mid < en ∧ en < b) ∨ (¬ mid < en) ∨ (mid < en ∧ ¬ en < b) by omega) with y2 | y2 | y2
                  · have f4 : (mid : Int) < (en : Int) := by omega
                    have f5 : (en : Int) < (b : Int) := by omega
                    exfalso; have := HLE.out; have := HEN.out; have := HN.out; omega
                  · have f4 : ¬ (mid : Int) < (en : Int) := by omega
                    exfalso; have := HLE.out; have := HEN.out; have := HN.out; omega
                  · have f4 : (mid : Int) < (en : Int) := by omega
                    have f5 : ¬ (en : Int) < (b : Int) := by omega
                    exfalso; have := HLE.out; have := HEN.out; have := HN.out; omega
              · have f0 : ¬ (i : Int) < (m : Int) := by omega
                rcases (show (a < i ∧ i < mid) ∨ (¬ a < i) ∨ (a < i ∧ ¬ i < mid) by omega) with y1 | y1 | y1
                · have f2 : (a : Int) < (i : Int) := by omega
                  have f3 : (i : Int) < (mid : Int) := by omega
                  rcases (show (mid < en ∧ en < b) ∨ (¬ mid < en) ∨ (mid < en ∧ ¬ en < b) by omega) with y2 | y2 | y2
                  · have f4 : (mid : Int) < (en : Int) := by omega
                    have f5 : (en : Int) < (b : Int) := by omega
                    exfalso; have := HLE.out; have := HEN.out; have := HN.out; omega
                  · have f4 : ¬ (mid : Int) < (en : Int) := by omega
                    have K0 := Lib.hid (show ¬ (i < m ∧ m < en) by omega)
                    have K1 := Lib.hid (show (a < i ∧ i < mid) by omega)
                    have K2 := Lib.hid (show ¬ (mid < en ∧ en < b) by omega)
                    clear y0 y1 y2
                    go_wp2_with fail
                    refine (HIH.out a i mid _ _ _ _ _ rfl rfl rfl HCW.out hrow HV.out K1.out.1 K1.out.2 (by have := HLE.out; omega) (by have := HLE.out; omega)).mono ?_; rintro e w2 ⟨rfl, hr2, hg2⟩
                    have HB2 := Lib.hid (grown_base hg2 hbg hbg2)
                    have HC2 := Lib.hid (HCW.out.later HB2.out)
                    have HV2 := Lib.hid (HV.out.perm (perm_sym (key := key) (n := n) t a i mid _ K1.out.1 K1.out.2 (by have := HLE.out; omega)))
                    go_wp2
                    all_goals go_end0
                    all_goals exact ⟨rfl, by rw [HFIN.out, if_neg K0.out, if_pos K1.out, if_neg K2.out]; exact hr2, (grown_trans hgr hg2)⟩
                  · have f4 : (mid : Int) < (en : Int) := by omega
                    have f5 : ¬ (en : Int) < (b : Int) := by omega
                    exfalso; have := HLE.out; have := HEN.out; have := HN.out; omega
                · have f2 : ¬ (a : Int) < (i : Int) := by omega
                  rcases (show (mid < en ∧ en < b) ∨ (¬ mid < en) ∨ (mid < en ∧ ¬ en < b) by omega) with y2 | y2 | y2
                  · have f4 : (mid : Int) < (en : Int) := by omega
                    have f5 : (en : Int) < (b : Int) := by omega
                    exfalso; have := HLE.out; have := HEN.out; have := HN.out; omega
                  · have f4 : ¬ (mid : Int) < (en : Int) := by omega
                    have K0 := Lib.hid (show ¬ (i < m ∧ m < en) by omega)
                    have K1 := Lib.hid (show ¬ (a < i ∧ i < mid) by omega)
                    have K2 := Lib.hid (show ¬ (mid < en ∧ en < b) by omega)
                    clear y0 y1 y2
                    go_wp2
                    all_goals go_end0
                    all_goals exact ⟨rfl, by rw [HFIN.out, if_neg K0.out, if_neg K1.out, if_neg K2.out]; exact hrow, hgr⟩
                  · have f4 : (mid : Int) < (en : Int) := by omega
                    have f5 : ¬ (en : Int) < (b : Int) := by omega
                    exfalso; have := HLE.out; have := HEN.out; have := HN.out; omega
                · have f2 : (a : Int) < (i : Int) := by omega
                  have f3 : ¬ (i : Int) < (mid : Int) := by omega
                  rcases (show (mid < en ∧ en < b) ∨ (¬ mid < en) ∨ (mid < en ∧ ¬ en < b) by omega) with y2 | y2 | y2
                  · have f4 : (mid : Int) < (en : Int) := by omega
                    have f5 : (en : Int) < (b : Int) := by omega
                    exfalso; have := HLE.out; have := HEN.out; have := HN.out; omega
                  · have f4 : ¬ (mid : Int) < (en : Int) := by omega
                    have K0 := Lib.hid (show ¬ (i < m ∧ m < en) by omega)
                    have K1 := Lib.hid (show ¬ (a < i ∧ i < mid) by omega)
                    have K2 := Lib.hid (show ¬ (mid < en ∧ en < b) by omega)
                    clear y0 y1 y2
                    go_wp2
                    all_goals go_end0
                    all_goals exact ⟨rfl, by rw [HFIN.out, if_neg K0.out, if_neg K1.out, if_neg K2.out]; exact hrow, hgr⟩
                  · have f4 : (mid : Int) < (en : Int) := by omega
                    have f5 : ¬ (en : Int) < (b : Int) := by omega
                    exfalso; have := HLE.out; have := HEN.out; have := HN.out; omega
              · have f0 : (i : Int) < (m : Int) := by omega
                have f1 : ¬ (m : Int) < (en : Int) := by omega
                rcases (show (a < i ∧ i < mid) ∨ (¬ a < i) ∨ (a < i ∧ ¬ i < mid) by omega) with y1 | y1 | y1
                · have f2 : (a : Int) < (i : Int) := by omega
                  have f3 : (i : Int) < (mid : Int) := by omega
                  rcases (show (mid < en ∧ en < b) ∨ (¬ mid < en) ∨ (mid < en ∧ ¬ en < b) by omega) with y2 | y2 | y2
                  · have f4 : (mid : Int) < (en : Int) := by omega
                    have f5 : (en : Int) < (b : Int) := by omega
                    exfalso; have := HLE.out; have := HEN.out; have := HN.out; omega
                  · have f4 : ¬ (mid : Int) < (en : Int) := by omega
                    exfalso; have := HLE.out; have := HEN.out; have := HN.out; omega
                  · have f4 : (mid : Int) < (en : Int) := by omega
                    have f5 : ¬ (en : Int) < (b : Int) := by omega
                    exfalso; have := HLE.out; have := HEN.out; have := HN.out; omega
                · have f2 : ¬ (a : Int) < (i : Int) := by omega
                  rcases (show (mid < en ∧ en < b) ∨ (¬ mid < en) ∨ (mid < en ∧ ¬ en < b) by omega) with y2 | y2 | y2
                  · have f4 : (mid : Int) < (en : Int) := by omega
                    have f5 : (en : Int) < (b : Int) := by omega
                    have K0 := Lib.hid (show ¬ (i < m ∧ m < en) by omega)
                    have K1 := Lib.hid (show ¬ (a < i ∧ i < mid) by omega)
                    have K2 := Lib.hid (show (mid < en ∧ en < b) by omega)
                    clear y0 y1 y2
                    go_wp2_with fail
                    refine (HIH.out mid en b _ _ _ _ _ rfl (by first | rfl | omega) rfl HCW.out hrow HV.out K2.out.1 K2.out.2 hb (by have := HLE.out; omega)).mono ?_; rintro e w3 ⟨rfl, hr3, hg3⟩
                    go_wp2
                    all_goals go_end0
                    all_goals exact ⟨rfl, by rw [HFIN.out, if_neg K0.out, if_neg K1.out, if_pos K2.out]; exact hr3, (grown_trans hgr hg3)⟩
                  · have f4 : ¬ (mid : Int) < (en : Int) := by omega
                    have K0 := Lib.hid (show ¬ (i < m ∧ m < en) by omega)
                    have K1 := Lib.hid (show ¬ (a < i ∧ i < mid) by omega)
                    have K2 := Lib.hid (show ¬ (mid < en ∧ en < b) by omega)
                    clear y0 y1 y2
                    go_wp2
                    all_goals go_end0
                    all_goals exact ⟨rfl, by rw [HFIN.out, if_neg K0.out, if_neg K1.out, if_neg K2.out]; exact hrow, hgr⟩
                  · have f4 : (mid : Int) < (en : Int) := by omega
                    have f5 : ¬ (en : Int) < (b : Int) := by omega
                    have K0 := Lib.hid (show ¬ (i < m ∧ m < en) by omega)
                    have K1 := Lib.hid (show ¬ (a < i ∧ i < mid) by omega)
                    have K2 := Lib.hid (show ¬ (mid < en ∧ en < b) by omega)
                    clear y0 y1 y2
                    go_wp2
                    all_goals go_end0
                    all_goals exact ⟨rfl, by rw [HFIN.out, if_neg K0.out, if_neg K1.out, if_neg K2.out]; exact hrow, hgr⟩
                · have f2 : (a : Int) < (i : Int) := by omega
                  have f3 : ¬ (i : Int) < (mid : Int) := by omega
                  rcases (show (mid < en ∧ en < b) ∨ (¬ mid < en) ∨ (mid < en ∧ ¬ en < b) by omega) with y2 | y2 | y2
                  · have f4 : (mid : Int) < (en : Int) := by omega
                    have f5 : (en : Int) < (b : Int) := by omega
                    have K0 := Lib.hid (show ¬ (i < m ∧ m < en) by omega)
                    have K1 := Lib.hid (show ¬ (a < i ∧ i < mid) by omega)
                    have K2 := Lib.hid (show (mid < en ∧ en < b) by omega)
                    clear y0 y1 y2
                    go_wp2_with fail
                    refine (HIH.out mid en b _ _ _ _ _ rfl (by first | rfl | omega) rfl HCW.out hrow HV.out K2.out.1 K2.out.2 hb (by have := HLE.out; omega)).mono ?_; rintro e w3 ⟨rfl, hr3, hg3⟩
                    go_wp2
                    all_goals go_end0
                    all_goals exact ⟨rfl, by rw [HFIN.out, if_neg K0.out, if_neg K1.out, if_pos K2.out]; exact hr3, (grown_trans hgr hg3)⟩
                  · have f4 : ¬ (mid : Int) < (en : Int) := by omega
                    have K0 := Lib.hid (show ¬ (i < m ∧ m < en) by omega)
                    have K1 := Lib.hid (show ¬ (a < i ∧ i < mid) by omega)
                    have K2 := Lib.hid (show ¬ (mid < en ∧ en < b) by omega)
                    clear y0 y1 y2
                    go_wp2
                    all_goals go_end0
                    all_goals exact ⟨rfl, by rw [HFIN.out, if_neg K0.out, if_neg K1.out, if_neg K2.out]; exact hrow, hgr⟩
                  · have f4 : (mid : Int) < (en : Int) := by omega
                    have f5 : ¬ (en : Int) < (b : Int) := by omega
                    have K0 := Lib.hid (show ¬ (i < m ∧ m < en) by omega)
                    have K1 := Lib.hid (show ¬ (a < i ∧ i < mid) by omega)
                    have K2 := Lib.hid (show ¬ (mid < en ∧ en < b) by omega)
                    clear y0 y1 y2
                    go_wp2
                    all_goals go_end0
                    all_goals exact ⟨rfl, by rw [HFIN.out, if_neg K0.out, if_neg K1.out, if_neg K2.out]; exact hrow, hgr⟩
end Go.Proofs.YtmfoaggohlfflaaGreatDoor

/-! ### slices.SortStableFunc over []int64 on a row of the call's own that holds 0, 1, .. n-1, n at most 40: it holds the places one by one. -/
namespace Go.Proofs.YtmfoaggohlfflaaGreatDoor
open Go.RowKit

set_option maxRecDepth 20000 in
set_option maxHeartbeats 8000000 in
theorem stable_any (base g n c : Nat) (F : FuncId) (cb : Array Value) (cf : Int → Int → Int) (key : Int → Int) (f : Nat → Int) (w : World) (eg : ∀ args w, (callFunc F args).run Tryz.prog w = .ok (.enter F args) w)
    (hcmp : CmpOk F cb cf base n w) (hcf : ∀ x y : Int, 0 ≤ x → x < n → 0 ≤ y → y < n → (cf x y < 0 ↔ key x < key y)) (h : Row w base g n c f) (hv : Vals f n) (h40 : n ≤ 40) :
    Calls Tryz.prog 187 #[.slice (some ⟨g, 0, none⟩) n c, .int .i64 n, .func (.func F) #[] cb] w fun e w' => e = .returned (.tuple #[]) ∧ Row w' base g n c (stab key n f) ∧ w.grownBy w' (some g) := by
  have HC := Lib.hid hcmp
  have HF := Lib.hid hcf
  have HV := Lib.hid hv
  obtain ⟨hbg, hgw⟩ := h.base
  have hbw : base ≤ w.heap.size := by omega
  have HINS := Lib.hid (fun a b f w (hc : CmpOk F cb cf base n w) (hr : Row w base g n c f) (hv : Vals f n) (hab : a ≤ b) (hb : b ≤ n) => insertion_any base g n c a b F cb cf key f w eg hc hcf hr hv hab hb (by omega))
  have HSYM := Lib.hid (symMerge_any base g n c F cb cf key eg hcf (show n ≤ 1048576 by omega))
  clear hcmp hcf hv eg
  by_cases h20 : n < 20
  · have HR := Lib.hid (show stab key n f = insRun key 0 (n - 0 - 1) f by unfold stab; rw [if_pos (by omega)]; rfl)
    have i1 : ¬ (20 : Int) ≤ (n : Int) := by omega
    have i2 : ¬ (20 : Int) < (n : Int) := by omega
    go_enter Tryz.func187, Tryz.ntmps187
    go_wp2
    refine wp_loop_rounds 1 ?_
    rw [rounds_succ]
    go_wp2_with (refine (HINS.out 0 n f _ HC.out h HV.out (Nat.zero_le _) (Nat.le_refl _)).mono ?_; rintro e w1 ⟨rfl, hr1, hg1⟩)
    refine wp_loop_rounds 1 ?_
    rw [rounds_succ]
    go_wp2
    go_end0
    exact ⟨rfl, by rw [HR.out]; exact hr1, hg1⟩
  · have HV1 := Lib.hid (HV.out.perm (perm_insRun (n := n) (key := key) 0 f 19 (by omega)))
    by_cases h20' : n = 20
    · have HR := Lib.hid (show stab key n f = insRun key 20 (n - 20 - 1) (insRun key 0 (20 - 0 - 1) f) by unfold stab; rw [if_pos (by omega), show n - 1 = 19 by omega, show n - 20 - 1 = 0 by omega]; rfl)
      subst h20'
      go_enter Tryz.func187, Tryz.ntmps187
      go_wp2
      refine wp_loop_rounds 2 ?_
      rw [rounds_succ]
      go_wp2_with (refine (HINS.out 0 20 f _ HC.out h HV.out (by omega) (by omega)).mono ?_; rintro e w1 ⟨rfl, hr1, hg1⟩)
      have HB1 := Lib.hid (grown_base hg1 hbg hbw)
      have HC1 := Lib.hid (HC.out.later HB1.out)
      rw [rounds_succ]
      go_wp2_with (refine (HINS.out 20 20 _ _ HC1.out hr1 HV1.out (by omega) (by omega)).mono ?_; rintro e w2 ⟨rfl, hr2, hg2⟩)
      refine wp_loop_rounds 1 ?_
      rw [rounds_succ]
      go_wp2
      go_end0
      exact ⟨rfl, by rw [HR.out]; exact hr2, grown_trans hg1 hg2⟩
    · have HV2 := Lib.hid (HV1.out.perm (perm_insRun (n := n) (key := key) 20 (insRun key 0 19 f) (n - 21) (by omega)))
      by_cases hf : n = 40
      · have HR := Lib.hid (show stab key n f = sym key 40 0 20 40 (insRun key 40 (40 - 40 - 1) (insRun key 20 (40 - 20 - 1) (insRun key 0 (20 - 0 - 1) f))) by subst hf; unfold stab; rw [if_neg (by omega)]; rfl)
        subst hf
        go_enter Tryz.func187, Tryz.ntmps187
        go_wp2
        refine wp_loop_rounds 3 ?_
        rw [rounds_succ]
        go_wp2_with (refine (HINS.out 0 20 f _ HC.out h HV.out (by omega) (by omega)).mono ?_; rintro e w1 ⟨rfl, hr1, hg1⟩)
        have HB1 := Lib.hid (grown_base hg1 hbg hbw)
        have HC1 := Lib.hid (HC.out.later HB1.out)
        have hb1 : base ≤ w1.heap.size := Nat.le_trans hbw hg1.size
        rw [rounds_succ]
        go_wp2_with (refine (HINS.out 20 40 _ _ HC1.out hr1 HV1.out (by omega) (by omega)).mono ?_; rintro e w2 ⟨rfl, hr2, hg2⟩)
        have HB2 := Lib.hid (grown_base hg2 hbg hb1)
        have HC2 := Lib.hid (HC1.out.later HB2.out)
        have hb2 : base ≤ w2.heap.size := Nat.le_trans hb1 hg2.size
        rw [rounds_succ]
        go_wp2_with (refine (HINS.out 40 40 _ _ HC2.out hr2 HV2.out (by omega) (by omega)).mono ?_; rintro e w3 ⟨rfl, hr3, hg3⟩)
        have HB3 := Lib.hid (grown_base hg3 hbg hb2)
        have HC3 := Lib.hid (HC2.out.later HB3.out)
        refine wp_loop_rounds 2 ?_
        rw [rounds_succ]
        go_wp2
        refine wp_loop_rounds 2 ?_
        rw [rounds_succ]
        go_wp2_with (refine (HSYM.out 40 0 20 40 _ _ _ _ _ rfl (by first | rfl | omega) (by first | rfl | omega) HC3.out hr3 HV2.out (by omega) (by omega) (by omega) (by omega)).mono ?_; rintro e w4 ⟨rfl, hr4, hg4⟩)
        rw [rounds_succ]
        go_wp2
        rw [rounds_succ]
        go_wp2
        go_end0
        exact ⟨rfl, by rw [HR.out]; exact hr4, grown_trans (grown_trans (grown_trans hg1 hg2) hg3) hg4⟩
      · have HR := Lib.hid (show stab key n f = sym key n 0 20 n (insRun key 20 (n - 20 - 1) (insRun key 0 (20 - 0 - 1) f)) by unfold stab; rw [if_neg (by omega), show n - 20 - 1 = n - 21 by omega])
        have i1 : (20 : Int) ≤ (n : Int) := by omega
        have i2 : (20 : Int) < (n : Int) := by omega
        have i3 : ¬ (40 : Int) ≤ (n : Int) := by omega
        have i4 : ¬ (40 : Int) < (n : Int) := by omega
        go_enter Tryz.func187, Tryz.ntmps187
        go_wp2
        refine wp_loop_rounds 2 ?_
        rw [rounds_succ]
        go_wp2_with (refine (HINS.out 0 20 f _ HC.out h HV.out (by omega) (by omega)).mono ?_; rintro e w1 ⟨rfl, hr1, hg1⟩)
        have HB1 := Lib.hid (grown_base hg1 hbg hbw)
        have HC1 := Lib.hid (HC.out.later HB1.out)
        have hb1 : base ≤ w1.heap.size := Nat.le_trans hbw hg1.size
        rw [rounds_succ]
        go_wp2_with (refine (HINS.out 20 n _ _ HC1.out hr1 HV1.out (by omega) (by omega)).mono ?_; rintro e w2 ⟨rfl, hr2, hg2⟩)
        have HB2 := Lib.hid (grown_base hg2 hbg hb1)
        have HC2 := Lib.hid (HC1.out.later HB2.out)
        refine wp_loop_rounds 2 ?_
        rw [rounds_succ]
        go_wp2
        refine wp_loop_rounds 1 ?_
        rw [rounds_succ]
        go_wp2_with (refine (HSYM.out n 0 20 n _ _ _ _ _ rfl (by first | rfl | omega) rfl HC2.out hr2 HV2.out (by omega) (by omega) (by omega) (by omega)).mono ?_; rintro e w4 ⟨rfl, hr4, hg4⟩)
        go_wp2
        rw [rounds_succ]
        go_wp2
        go_end0
        exact ⟨rfl, by rw [HR.out]; exact hr4, grown_trans (grown_trans hg1 hg2) hg4⟩

set_option maxHeartbeats 1000000 in
/-- The whole sort: a row of the numbers 0, 1, .. n-1. -/
theorem SortStable_any (base g n c : Nat) (F : FuncId) (cb : Array Value) (cf : Int → Int → Int) (key : Int → Int) (w : World) (eg : ∀ args w, (callFunc F args).run Tryz.prog w = .ok (.enter F args) w)
    (hcmp : CmpOk F cb cf base n w) (hcf : ∀ x y : Int, 0 ≤ x → x < n → 0 ≤ y → y < n → (cf x y < 0 ↔ key x < key y)) (h : w.ownsRow base 2 1 (.slice (some ⟨g, 0, none⟩) n c) n (ints (rowF (fun k => (k : Int)) n))) (h40 : n ≤ 40) :
    Calls Tryz.prog 168 #[.slice (some ⟨g, 0, none⟩) n c, .func (.func F) #[] cb] w fun e w' => e = .returned (.tuple #[]) ∧ w'.ownsRow base 2 1 (.slice (some ⟨g, 0, none⟩) n c) n (ints (plL key n)) ∧ w.grownBy w' (some g) := by
  have hrow : Row w base g n c (fun k => (k : Int)) := h
  have hv : Vals (fun k => (k : Int)) n := fun k hk => by constructor <;> simp only <;> omega
  have HCON := Lib.hid (stable_any base g n c F cb cf key _ w eg hcmp hcf hrow hv h40)
  have HP := Lib.hid (stab_places key n)
  clear hcmp hcf hrow hv h
  go_enter Tryz.func168, Tryz.ntmps168
  go_wp2_with fail
  refine HCON.out.mono ?_; rintro e w1 ⟨rfl, hr1, hg1⟩
  unfold Row at hr1
  rw [HP.out] at hr1
  go_wp2
  go_end0
  exact ⟨rfl, hr1, hg1⟩
end Go.Proofs.YtmfoaggohlfflaaGreatDoor
