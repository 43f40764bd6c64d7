/- The stable sort of rows of numbers by keys: what the library's steps make of a row, and that it is the places one by one. No program in sight. -/
import Derived.Test.YteeaeomkpecflaaWords
namespace Go.Proofs.Yteeaeomkpecflaa
/-- Two places of a row exchanged. -/
def fsw (f : Nat → Int) (i j : Nat) : Nat → Int := fun k => if k = i then f j else if k = j then f i else f k
/-- The order: by keys, then by numbers. -/
def Rk (key : Int → Int) (x y : Int) : Prop := key x < key y ∨ (key x = key y ∧ x < y)
/-- Insertion of the element at a place. -/
def insIn (key : Int → Int) (a : Nat) : Nat → (Nat → Int) → (Nat → Int)
  | 0, f => f
  | j + 1, f => if a < j + 1 ∧ key (f (j + 1)) < key (f j) then insIn key a j (fsw f (j + 1) j) else f
def insRun (key : Int → Int) (a : Nat) : Nat → (Nat → Int) → (Nat → Int)
  | 0, f => f
  | m + 1, f => insIn key a (a + 1 + m) (insRun key a m f)
/-- Searching by halves. -/
def bsr (p : Nat → Bool) (i j : Nat) : Nat :=
  if h : i < j then (if p ((i + j) / 2) = true then bsr p ((i + j) / 2 + 1) j else bsr p i ((i + j) / 2)) else i
  termination_by j - i
  decreasing_by all_goals omega
def mvUp (a : Nat) : Nat → (Nat → Int) → (Nat → Int)
  | 0, f => f
  | t + 1, f => fsw (mvUp a t f) (a + t) (a + t + 1)
def mvDn (m : Nat) : Nat → (Nat → Int) → (Nat → Int)
  | 0, f => f
  | t + 1, f => fsw (mvDn m t f) (m - t) (m - t - 1)
def swR (a b : Nat) : Nat → (Nat → Int) → (Nat → Int)
  | 0, f => f
  | t + 1, f => fsw (swR a b t f) (a + t) (b + t)
def rot (m i j : Nat) (f : Nat → Int) : Nat → Int :=
  if _h : i = j ∨ i = 0 ∨ j = 0 then swR (m - i) m i f
  else if j < i then rot m (i - j) j (swR (m - i) m j f)
  else rot m i (j - i) (swR (m - i) (m + j - i) i f)
  termination_by i + j
  decreasing_by all_goals omega
def symS (a m b : Nat) : Nat × Nat := if (a + b) / 2 < m then ((a + b) / 2 + m - b, (a + b) / 2) else (a, m)
def symP (key : Int → Int) (f : Nat → Int) (n c : Nat) : Bool := !decide (key (f (n - 1 - c)) < key (f c))
def symT (key : Int → Int) (f : Nat → Int) (a m b : Nat) : Nat := bsr (symP key f ((a + b) / 2 + m)) (symS a m b).1 (symS a m b).2
def sym (key : Int → Int) : Nat → Nat → Nat → Nat → (Nat → Int) → (Nat → Int)
  | 0, _, _, _, f => f
  | t + 1, a, m, b, f =>
    if m - a = 1 then mvUp a (bsr (fun h => decide (key (f h) < key (f a))) m b - 1 - a) f
    else if b - m = 1 then mvDn m (m - bsr (fun h => !decide (key (f m) < key (f h))) a m) f
    else
      let mid := (a + b) / 2
      let start := symT key f a m b
      let en := mid + m - start
      let f1 := if start < m ∧ m < en then rot m (m - start) (en - m) f else f
      let f2 := if a < start ∧ start < mid then sym key t a start mid f1 else f1
      if mid < en ∧ en < b then sym key t mid en b f2 else f2
def stab (key : Int → Int) (n : Nat) (f : Nat → Int) : Nat → Int :=
  if n ≤ 20 then insRun key 0 (n - 1) f else sym key n 0 20 n (insRun key 20 (n - 21) (insRun key 0 19 f))

/-! ### what they do -/
section
variable {key : Int → Int} {f : Nat → Int}
theorem Rk.trans {x y z : Int} (h : Rk key x y) (k : Rk key y z) : Rk key x z := by unfold Rk at *; omega
theorem Rk.asymm {x y : Int} (h : Rk key x y) (k : Rk key y x) : False := by unfold Rk at *; omega
theorem Rk.of_not {x y : Int} (h : ¬ key y < key x) (k : x < y) : Rk key x y := by unfold Rk; omega
theorem Rk.of_lt {x y : Int} (h : key x < key y) : Rk key x y := .inl h
def Srt (key : Int → Int) (f : Nat → Int) (a b : Nat) : Prop := ∀ i j, a ≤ i → i < j → j < b → Rk key (f i) (f j)
def Lft (f : Nat → Int) (a m b : Nat) : Prop := ∀ i j, a ≤ i → i < m → m ≤ j → j < b → f i < f j
/-- g holds on [a, b) what f holds there, and elsewhere the same. -/
structure On (f g : Nat → Int) (a b : Nat) : Prop where
  out : ∀ k, k < a ∨ b ≤ k → g k = f k
  mem : ∀ k, a ≤ k → k < b → ∃ j, a ≤ j ∧ j < b ∧ g k = f j
theorem On.refl (f : Nat → Int) (a b : Nat) : On f f a b := ⟨fun _ _ => rfl, fun k h1 h2 => ⟨k, h1, h2, rfl⟩⟩
theorem On.trans {f g h : Nat → Int} {a b : Nat} (x : On f g a b) (y : On g h a b) : On f h a b :=
  ⟨fun k hk => (y.out k hk).trans (x.out k hk), fun k h1 h2 => by
    obtain ⟨j, hj1, hj2, e⟩ := y.mem k h1 h2
    obtain ⟨l, hl1, hl2, e2⟩ := x.mem j hj1 hj2
    exact ⟨l, hl1, hl2, e.trans e2⟩⟩
theorem On.mono {f g : Nat → Int} {a b c d : Nat} (x : On f g a b) (h1 : c ≤ a) (h2 : b ≤ d) : On f g c d :=
  ⟨fun k hk => x.out k (by omega), fun k hk1 hk2 => by
    by_cases h : a ≤ k ∧ k < b
    · obtain ⟨j, hj1, hj2, e⟩ := x.mem k h.1 h.2
      exact ⟨j, by omega, by omega, e⟩
    · exact ⟨k, hk1, hk2, x.out k (by omega)⟩⟩

theorem mvUp_eq (a t : Nat) (f : Nat → Int) (k : Nat) : mvUp a t f k = if a ≤ k ∧ k < a + t then f (k + 1) else if k = a + t then f a else f k := by
  induction t generalizing k with
  | zero => simp only [mvUp]; split <;> (try split) <;> first | rfl | (congr 1 <;> omega) | omega
  | succ t ih =>
    simp only [mvUp, fsw, ih]
    repeat' split
    all_goals first | rfl | (congr 1 <;> omega) | omega | exact absurd trivial ‹¬True›
theorem mvDn_eq (m t : Nat) (ht : t ≤ m) (f : Nat → Int) (k : Nat) : mvDn m t f k = if m - t < k ∧ k ≤ m then f (k - 1) else if k = m - t then f m else f k := by
  induction t generalizing k with
  | zero => simp only [mvDn]; repeat' split
            all_goals first | rfl | (congr 1 <;> omega) | omega | exact absurd trivial ‹¬True›
  | succ t ih =>
    have ih := ih (by omega)
    simp only [mvDn, fsw, ih]
    repeat' split
    all_goals first | rfl | (congr 1 <;> omega) | omega | exact absurd trivial ‹¬True›
theorem swR_eq (a b t : Nat) (h : a + t ≤ b ∨ b + t ≤ a) (f : Nat → Int) (k : Nat) : swR a b t f k = if a ≤ k ∧ k < a + t then f (b + (k - a)) else if b ≤ k ∧ k < b + t then f (a + (k - b)) else f k := by
  induction t generalizing k with
  | zero => simp only [swR]; repeat' split
            all_goals first | rfl | (congr 1 <;> omega) | omega | exact absurd trivial ‹¬True›
  | succ t ih =>
    have ih := ih (by omega)
    simp only [swR, fsw, ih]
    repeat' split
    all_goals first | rfl | (congr 1 <;> omega) | omega | exact absurd trivial ‹¬True›
theorem rot_eq : ∀ (s m i j : Nat) (_ : i + j ≤ s) (_ : i ≤ m) (_ : 0 < i) (_ : 0 < j) (f : Nat → Int) (k : Nat),
    rot m i j f k = if m - i ≤ k ∧ k < m - i + j then f (k + i) else if m - i + j ≤ k ∧ k < m + j then f (k - j) else f k := by
  intro s
  induction s with
  | zero => intro m i j h1 h2 h3; omega
  | succ s ih =>
    intro m i j hs hm hi hj f k
    rw [rot]
    by_cases he : i = j ∨ i = 0 ∨ j = 0
    · rw [dif_pos he, swR_eq _ _ _ (by omega)]
      repeat' split
      all_goals first | rfl | (congr 1 <;> omega) | omega | exact absurd trivial ‹¬True›
    · rw [dif_neg he]
      by_cases hlt : j < i
      · rw [if_pos hlt, ih m (i - j) j (by omega) (by omega) (by omega) hj]
        simp only [swR_eq (m - i) m j (by omega)]
        repeat' split
        all_goals first | rfl | (congr 1 <;> omega) | omega | exact absurd trivial ‹¬True›
      · rw [if_neg hlt, ih m i (j - i) (by omega) hm hi (by omega)]
        simp only [swR_eq (m - i) (m + j - i) i (by omega)]
        repeat' split
        all_goals first | rfl | (congr 1 <;> omega) | omega | exact absurd trivial ‹¬True›
theorem bsr_ok (p : Nat → Bool) : ∀ (s i j : Nat), j - i ≤ s → i ≤ j → i ≤ bsr p i j ∧ bsr p i j ≤ j ∧ (bsr p i j = i ∨ p (bsr p i j - 1) = true) ∧ (bsr p i j = j ∨ p (bsr p i j) = false) := by
  intro s
  induction s with
  | zero =>
    intro i j h1 h2
    have : i = j := by omega
    subst this
    rw [bsr, dif_neg (by omega)]
    exact ⟨Nat.le_refl _, Nat.le_refl _, .inl rfl, .inl rfl⟩
  | succ s ih =>
    intro i j h1 h2
    rw [bsr]
    by_cases h : i < j
    · rw [dif_pos h]
      by_cases hp : p ((i + j) / 2) = true
      · rw [if_pos hp]
        obtain ⟨a1, a2, a3, a4⟩ := ih ((i + j) / 2 + 1) j (by omega) (by omega)
        refine ⟨by omega, a2, ?_, a4⟩
        rcases a3 with a3 | a3
        · right; rw [a3]; simpa using hp
        · exact .inr a3
      · rw [if_neg hp]
        obtain ⟨a1, a2, a3, a4⟩ := ih i ((i + j) / 2) (by omega) (by omega)
        refine ⟨a1, by omega, a3, ?_⟩
        rcases a4 with a4 | a4
        · right; rw [a4]; simpa using hp
        · exact .inr a4
    · rw [dif_neg h]
      exact ⟨Nat.le_refl _, h2, .inl rfl, .inl (by omega)⟩

/-- Inserting the element at m into the sorted row [a, m), at place p. -/
theorem srt_insert {g : Nat → Int} {a m p : Nat} (hs : Srt key f a m) (hl : Lft f a m (m + 1)) (h1 : a ≤ p) (h2 : p ≤ m)
    (hlo : p = a ∨ ¬ key (f m) < key (f (p - 1))) (hhi : p = m ∨ key (f m) < key (f p))
    (hg : ∀ k, g k = if p < k ∧ k ≤ m then f (k - 1) else if k = p then f m else f k) : Srt key g a (m + 1) ∧ On f g a (m + 1) := by
  refine ⟨?_, ?_, ?_⟩
  · have hlo' : ∀ q, a ≤ q → q < p → Rk key (f q) (f m) := by
      intro q hq1 hq2
      have hr : Rk key (f (p - 1)) (f m) := Rk.of_not (by rcases hlo with h | h; omega; exact h) (hl (p - 1) m (by omega) (by omega) (by omega) (by omega))
      by_cases e : q = p - 1
      · rw [e]; exact hr
      · exact (hs q (p - 1) hq1 (by omega) (by omega)).trans hr
    have hhi' : ∀ q, p ≤ q → q < m → Rk key (f m) (f q) := by
      intro q hq1 hq2
      have hr : Rk key (f m) (f p) := Rk.of_lt (by rcases hhi with h | h; omega; exact h)
      by_cases e : q = p
      · rw [e]; exact hr
      · exact hr.trans (hs p q h1 (by omega) hq2)
    intro i j hi hij hj
    rw [hg i, hg j]
    repeat' split
    all_goals first | (exfalso; omega) | exact hs _ _ (by omega) (by omega) (by omega) | exact hlo' _ (by omega) (by omega) | exact hhi' _ (by omega) (by omega)
  · intro k hk
    rw [hg k, if_neg (by omega), if_neg (by omega)]
  · intro k hk1 hk2
    rw [hg k]
    repeat' split
    · exact ⟨k - 1, by omega, by omega, rfl⟩
    · exact ⟨m, by omega, by omega, rfl⟩
    · exact ⟨k, hk1, hk2, rfl⟩
theorem insIn_ok (a : Nat) : ∀ (j : Nat) (f : Nat → Int), a ≤ j → ∃ p, a ≤ p ∧ p ≤ j ∧ (p = a ∨ ¬ key (f j) < key (f (p - 1))) ∧ (p = j ∨ key (f j) < key (f p)) ∧
    ∀ k, insIn key a j f k = if p < k ∧ k ≤ j then f (k - 1) else if k = p then f j else f k := by
  intro j
  induction j with
  | zero =>
    intro f h
    refine ⟨0, h, Nat.le_refl _, .inl (by omega), .inl rfl, fun k => ?_⟩
    simp only [insIn]
    repeat' split
    all_goals first | rfl | (congr 1 <;> omega) | omega | exact absurd trivial ‹¬True›
  | succ j ih =>
    intro f h
    simp only [insIn]
    by_cases hc : a < j + 1 ∧ key (f (j + 1)) < key (f j)
    · rw [if_pos hc]
      obtain ⟨p, p1, p2, p3, p4, p5⟩ := ih (fsw f (j + 1) j) (by omega)
      have ej : fsw f (j + 1) j j = f (j + 1) := by unfold fsw; rw [if_neg (by omega), if_pos rfl]
      have eo : ∀ q, q < j → fsw f (j + 1) j q = f q := fun q hq => by unfold fsw; rw [if_neg (by omega), if_neg (by omega)]
      refine ⟨p, p1, by omega, ?_, ?_, ?_⟩
      · rcases p3 with h3 | h3
        · exact .inl h3
        · by_cases hp : p = a
          · exact .inl hp
          · right; rw [ej, eo _ (by omega)] at h3; exact h3
      · right
        by_cases hp : p = j
        · rw [hp]; exact hc.2
        · rcases p4 with h4 | h4
          · exact absurd h4 hp
          · rw [ej, eo _ (by omega)] at h4; exact h4
      · intro k
        rw [p5 k]
        simp only [fsw]
        repeat' split
        all_goals first | rfl | (congr 1 <;> omega) | omega | exact absurd trivial ‹¬True›
    · rw [if_neg hc]
      refine ⟨j + 1, h, Nat.le_refl _, ?_, .inl rfl, ?_⟩
      · by_cases h0 : a < j + 1
        · right; simp only [Nat.add_sub_cancel]; exact fun h2 => hc ⟨h0, h2⟩
        · left; omega
      · intro k
        repeat' split
        all_goals first | rfl | (congr 1 <;> omega) | omega | exact absurd trivial ‹¬True›
theorem insRun_ok (a : Nat) (f : Nat → Int) : ∀ m b, a + 1 + m ≤ b → (∀ i j, a ≤ i → i < j → j < b → f i < f j) → Srt key (insRun key a m f) a (a + 1 + m) ∧ On f (insRun key a m f) a (a + 1 + m) := by
  intro m
  induction m with
  | zero =>
    intro b _ _
    exact ⟨fun i j h1 h2 h3 => by omega, On.refl _ _ _⟩
  | succ m ih =>
    intro b hb hf
    obtain ⟨h1, h2⟩ := ih b (by omega) hf
    simp only [insRun]
    obtain ⟨p, p1, p2, p3, p4, p5⟩ := insIn_ok (key := key) a (a + 1 + m) (insRun key a m f) (by omega)
    have hl : Lft (insRun key a m f) a (a + 1 + m) (a + 1 + m + 1) := by
      intro i j hi1 hi2 hj1 hj2
      obtain ⟨q, q1, q2, e⟩ := h2.mem i hi1 hi2
      rw [e, h2.out j (by omega)]
      exact hf _ _ q1 (by omega) (by omega)
    obtain ⟨r1, r2⟩ := srt_insert h1 hl p1 p2 p3 p4 p5
    exact ⟨r1, (h2.mono (Nat.le_refl _) (by omega)).trans r2⟩
theorem symS_ok {a m b : Nat} (h1 : a < m) (h2 : m < b) : a ≤ (symS a m b).1 ∧ (symS a m b).1 ≤ (symS a m b).2 ∧ (symS a m b).2 ≤ m ∧ (symS a m b).2 ≤ (a + b) / 2 ∧
    ((symS a m b).1 = a ∨ (a + b) / 2 + m - (symS a m b).1 = b) ∧ ((symS a m b).2 = m ∨ (symS a m b).2 = (a + b) / 2) ∧ m ≤ (a + b) / 2 + m - (symS a m b).2 ∧ (a + b) / 2 + m - (symS a m b).1 ≤ b := by
  unfold symS
  split
  all_goals
    refine ⟨?_, ?_, ?_, ?_, ?_, ?_, ?_, ?_⟩
    all_goals first | (dsimp only; omega) | exact .inr rfl | exact .inl rfl
theorem symT_ok {a m b : Nat} (h1 : a < m) (h2 : m < b) (f : Nat → Int) : (symS a m b).1 ≤ symT key f a m b ∧ symT key f a m b ≤ (symS a m b).2 ∧
    (symT key f a m b = (symS a m b).1 ∨ ¬ key (f ((a + b) / 2 + m - symT key f a m b)) < key (f (symT key f a m b - 1))) ∧
    (symT key f a m b = (symS a m b).2 ∨ key (f ((a + b) / 2 + m - symT key f a m b - 1)) < key (f (symT key f a m b))) := by
  have hs := symS_ok h1 h2
  obtain ⟨q1, q2, q3, q4⟩ := bsr_ok (symP key f ((a + b) / 2 + m)) _ (symS a m b).1 (symS a m b).2 (Nat.le_refl _) hs.2.1
  change _ ≤ symT key f a m b at q1
  change symT key f a m b ≤ _ at q2
  change symT key f a m b = _ ∨ symP key f ((a + b) / 2 + m) (symT key f a m b - 1) = true at q3
  change symT key f a m b = _ ∨ symP key f ((a + b) / 2 + m) (symT key f a m b) = false at q4
  refine ⟨q1, q2, ?_, ?_⟩
  · by_cases e : symT key f a m b = (symS a m b).1
    · exact .inl e
    · right
      rcases q3 with q3 | q3
      · exact absurd q3 e
      · unfold symP at q3
        rw [show (a + b) / 2 + m - 1 - (symT key f a m b - 1) = (a + b) / 2 + m - symT key f a m b by omega] at q3
        simpa using q3
  · rcases q4 with q4 | q4
    · exact .inl q4
    · right
      unfold symP at q4
      rw [show (a + b) / 2 + m - 1 - symT key f a m b = (a + b) / 2 + m - symT key f a m b - 1 by omega] at q4
      simpa using q4
set_option maxHeartbeats 4000000 in
theorem sym_ok : ∀ (t a m b : Nat) (f : Nat → Int), a < m → m < b → b - a ≤ t → Srt key f a m → Srt key f m b → Lft f a m b →
    Srt key (sym key t a m b f) a b ∧ On f (sym key t a m b f) a b := by
  intro t
  induction t with
  | zero => intro a m b f h1 h2 h3; omega
  | succ t ih =>
    intro a m b f ham hmb hb hs1 hs2 hl
    simp only [sym]
    by_cases c1 : m - a = 1
    · rw [if_pos c1]
      obtain rfl : m = a + 1 := by omega
      obtain ⟨q1, q2, q3, q4⟩ := bsr_ok (fun h => decide (key (f h) < key (f a))) _ (a + 1) b (Nat.le_refl _) (by omega)
      obtain ⟨s, hs⟩ : ∃ s, s = bsr (fun h => decide (key (f h) < key (f a))) (a + 1) b := ⟨_, rfl⟩
      rw [← hs] at q1 q2 q3 q4 ⊢
      simp only [decide_eq_true_eq, decide_eq_false_iff_not] at q3 q4
      have hlo : ∀ q, a + 1 ≤ q → q < s → Rk key (f q) (f a) := by
        intro q hq1 hq2
        have hr : Rk key (f (s - 1)) (f a) := Rk.of_lt (by rcases q3 with h | h; omega; exact h)
        by_cases e : q = s - 1
        · rw [e]; exact hr
        · exact (hs2 q (s - 1) hq1 (by omega) (by omega)).trans hr
      have hhi : ∀ q, s ≤ q → q < b → Rk key (f a) (f q) := by
        intro q hq1 hq2
        have hr : Rk key (f a) (f s) := Rk.of_not (by rcases q4 with h | h; omega; exact h) (hl a s (by omega) (by omega) (by omega) (by omega))
        by_cases e : q = s
        · rw [e]; exact hr
        · exact hr.trans (hs2 s q q1 (by omega) hq2)
      have hg := mvUp_eq a (s - 1 - a) f
      refine ⟨?_, ?_, ?_⟩
      · intro i j hi hij hj
        rw [hg i, hg j]
        repeat' split
        all_goals first | (exfalso; omega) | exact hs2 _ _ (by omega) (by omega) (by omega) | exact hlo _ (by omega) (by omega) | exact hhi _ (by omega) (by omega)
      · intro k hk
        rw [hg k, if_neg (by omega), if_neg (by omega)]
      · intro k hk1 hk2
        rw [hg k]
        repeat' split
        · exact ⟨k + 1, by omega, by omega, rfl⟩
        · exact ⟨a, by omega, by omega, rfl⟩
        · exact ⟨k, hk1, hk2, rfl⟩
    · rw [if_neg c1]
      by_cases c2 : b - m = 1
      · rw [if_pos c2]
        obtain rfl : b = m + 1 := by omega
        obtain ⟨q1, q2, q3, q4⟩ := bsr_ok (fun h => !decide (key (f m) < key (f h))) _ a m (Nat.le_refl _) (by omega)
        obtain ⟨s, hs⟩ : ∃ s, s = bsr (fun h => !decide (key (f m) < key (f h))) a m := ⟨_, rfl⟩
        rw [← hs] at q1 q2 q3 q4 ⊢
        refine srt_insert hs1 hl q1 q2 (by simpa using q3) (by simpa using q4) ?_
        intro k
        rw [mvDn_eq _ _ (by omega), show m - (m - s) = s by omega]
      · rw [if_neg c2]
        have hS := symS_ok ham hmb
        obtain ⟨t1, t2, t3, t4⟩ := symT_ok (key := key) ham hmb f
        obtain ⟨s, hs⟩ : ∃ s, s = symT key f a m b := ⟨_, rfl⟩
        rw [← hs] at t1 t2 t3 t4 ⊢
        obtain ⟨mid, hmid⟩ : ∃ mid, mid = (a + b) / 2 := ⟨_, rfl⟩
        have hm1 : mid - a ≤ t := by omega
        have hm2 : b - mid ≤ t := by omega
        rw [← hmid] at hS t3 t4 ⊢
        obtain ⟨en, hen⟩ : ∃ en, en = mid + m - s := ⟨_, rfl⟩
        rw [← hen] at t3 t4 ⊢
        generalize (symS a m b).1 = s0 at hS t1 t3
        generalize (symS a m b).2 = r0 at hS t2 t4
        obtain ⟨f1, hf1⟩ : ∃ f1, f1 = if s < m ∧ m < en then rot m (m - s) (en - m) f else f := ⟨_, rfl⟩
        rw [← hf1]
        have e1 : ∀ k, f1 k = if s ≤ k ∧ k < mid then f (k + (m - s)) else if mid ≤ k ∧ k < en then f (k - (en - m)) else f k := by
          intro k
          rw [hf1]
          split
          · rw [rot_eq _ m (m - s) (en - m) (Nat.le_refl _) (by omega) (by omega) (by omega)]
            repeat' split
            all_goals first | rfl | (congr 1 <;> omega) | omega | exact absurd trivial ‹¬True›
          · repeat' split
            all_goals first | rfl | (congr 1 <;> omega) | omega | exact absurd trivial ‹¬True›
        have o1 : On f f1 a b := by
          refine ⟨?_, ?_⟩
          · intro k hk
            rw [e1 k, if_neg (by omega), if_neg (by omega)]
          · intro k hk1 hk2
            rw [e1 k]
            repeat' split
            · exact ⟨k + (m - s), by omega, by omega, rfl⟩
            · exact ⟨k - (en - m), by omega, by omega, rfl⟩
            · exact ⟨k, hk1, hk2, rfl⟩
        have cross : ∀ p q, a ≤ p → p < mid → mid ≤ q → q < b → Rk key (f1 p) (f1 q) := by
          intro p q hp1 hp2 hq1 hq2
          have x1 : ∀ p q, a ≤ p → p < s → en ≤ q → q < b → Rk key (f p) (f q) := by
            intro p q hp1 hp2 hq1 hq2
            have hr : Rk key (f (s - 1)) (f en) := Rk.of_not (by rcases t3 with h | h; omega; exact h) (hl _ _ (by omega) (by omega) (by omega) (by omega))
            have hr2 : Rk key (f p) (f en) := by
              by_cases e : p = s - 1
              · rw [e]; exact hr
              · exact (hs1 p (s - 1) hp1 (by omega) (by omega)).trans hr
            by_cases e : q = en
            · rw [e]; exact hr2
            · exact hr2.trans (hs2 en q (by omega) (by omega) hq2)
          have x2 : ∀ p q, m ≤ p → p < en → s ≤ q → q < m → Rk key (f p) (f q) := by
            intro p q hp1 hp2 hq1 hq2
            have hr : Rk key (f (en - 1)) (f s) := Rk.of_lt (by rcases t4 with h | h; omega; exact h)
            have hr2 : Rk key (f p) (f s) := by
              by_cases e : p = en - 1
              · rw [e]; exact hr
              · exact (hs2 p (en - 1) hp1 (by omega) (by omega)).trans hr
            by_cases e : q = s
            · rw [e]; exact hr2
            · exact hr2.trans (hs1 s q (by omega) (by omega) hq2)
          rw [e1 p, e1 q]
          repeat' split
          all_goals first | (exfalso; omega) | exact hs1 _ _ (by omega) (by omega) (by omega) | exact hs2 _ _ (by omega) (by omega) (by omega) | exact x1 _ _ (by omega) (by omega) (by omega) (by omega) | exact x2 _ _ (by omega) (by omega) (by omega) (by omega)
        obtain ⟨f2, hf2⟩ : ∃ f2, f2 = if a < s ∧ s < mid then sym key t a s mid f1 else f1 := ⟨_, rfl⟩
        rw [← hf2]
        have r2 : Srt key f2 a mid ∧ On f1 f2 a mid := by
          rw [hf2]
          split
          · rename_i hc
            refine ih a s mid f1 hc.1 hc.2 hm1 ?_ ?_ ?_
            · intro i j hi hij hj
              rw [e1 i, e1 j, if_neg (by omega), if_neg (by omega), if_neg (by omega), if_neg (by omega)]
              exact hs1 _ _ hi hij (by omega)
            · intro i j hi hij hj
              rw [e1 i, e1 j, if_pos (by omega), if_pos (by omega)]
              exact hs2 _ _ (by omega) (by omega) (by omega)
            · intro i j hi1 hi2 hj1 hj2
              rw [e1 i, e1 j, if_neg (by omega), if_neg (by omega), if_pos (by omega)]
              exact hl _ _ (by omega) (by omega) (by omega) (by omega)
          · rename_i hc
            refine ⟨?_, On.refl _ _ _⟩
            intro i j hi hij hj
            rw [e1 i, e1 j]
            repeat' split
            all_goals first | (exfalso; omega) | exact hs1 _ _ (by omega) (by omega) (by omega) | exact hs2 _ _ (by omega) (by omega) (by omega)
        have u2 : ∀ k, mid ≤ k → f2 k = f1 k := fun k hk => r2.2.out k (by omega)
        obtain ⟨f3, hf3⟩ : ∃ f3, f3 = if mid < en ∧ en < b then sym key t mid en b f2 else f2 := ⟨_, rfl⟩
        rw [← hf3]
        have r3 : Srt key f3 mid b ∧ On f2 f3 mid b := by
          rw [hf3]
          split
          · rename_i hc
            refine ih mid en b f2 hc.1 hc.2 hm2 ?_ ?_ ?_
            · intro i j hi hij hj
              rw [u2 i (by omega), u2 j (by omega), e1 i, e1 j, if_neg (by omega), if_pos (by omega), if_neg (by omega), if_pos (by omega)]
              exact hs1 _ _ (by omega) (by omega) (by omega)
            · intro i j hi hij hj
              rw [u2 i (by omega), u2 j (by omega), e1 i, e1 j, if_neg (by omega), if_neg (by omega), if_neg (by omega), if_neg (by omega)]
              exact hs2 _ _ (by omega) (by omega) (by omega)
            · intro i j hi1 hi2 hj1 hj2
              rw [u2 i (by omega), u2 j (by omega), e1 i, e1 j, if_neg (by omega), if_pos (by omega), if_neg (by omega), if_neg (by omega)]
              exact hl _ _ (by omega) (by omega) (by omega) (by omega)
          · rename_i hc
            refine ⟨?_, On.refl _ _ _⟩
            intro i j hi hij hj
            rw [u2 i (by omega), u2 j (by omega), e1 i, e1 j]
            repeat' split
            all_goals first | (exfalso; omega) | exact hs1 _ _ (by omega) (by omega) (by omega) | exact hs2 _ _ (by omega) (by omega) (by omega)
        refine ⟨?_, (o1.trans (r2.2.mono (Nat.le_refl _) (by omega))).trans (r3.2.mono (by omega) (Nat.le_refl _))⟩
        intro i j hi hij hj
        by_cases hjm : j < mid
        · rw [r3.2.out i (by omega), r3.2.out j (by omega)]
          exact r2.1 _ _ hi hij hjm
        · by_cases him : i < mid
          · rw [r3.2.out i (by omega)]
            obtain ⟨p, p1, p2, ep⟩ := r2.2.mem i hi him
            obtain ⟨q, q1, q2, eq⟩ := r3.2.mem j (by omega) hj
            rw [ep, eq, u2 q q1]
            exact cross _ _ p1 p2 q1 q2
          · exact r3.1 _ _ (by omega) hij hj
theorem stab_ok (n : Nat) (f : Nat → Int) (hf : ∀ i j, i < j → j < n → f i < f j) : Srt key (stab key n f) 0 n := by
  unfold stab
  split
  · rename_i h
    by_cases h0 : n = 0
    · subst h0; intro i j _ _ h; omega
    · have := (insRun_ok (key := key) 0 f (n - 1) n (by omega) (fun i j _ h1 h2 => hf i j h1 h2)).1
      rwa [show 0 + 1 + (n - 1) = n by omega] at this
  · rename_i h
    obtain ⟨a1, a2⟩ := insRun_ok (key := key) 0 f 19 n (by omega) (fun i j _ h1 h2 => hf i j h1 h2)
    obtain ⟨b1, b2⟩ := insRun_ok (key := key) 20 (insRun key 0 19 f) (n - 21) n (by omega) (fun i j h0 h1 h2 => by rw [a2.out i (by omega), a2.out j (by omega)]; exact hf i j h1 h2)
    rw [show 20 + 1 + (n - 21) = n by omega] at b1 b2
    refine (sym_ok n 0 20 n _ (by omega) (by omega) (by omega) ?_ b1 ?_).1
    · intro i j h1 h2 h3
      rw [b2.out i (by omega), b2.out j (by omega)]
      exact a1 i j h1 h2 (by omega)
    · intro i j h1 h2 h3 h4
      obtain ⟨q, q1, q2, e⟩ := b2.mem j h3 h4
      obtain ⟨p, p1, p2, e'⟩ := a2.mem i (by omega) (by omega)
      rw [b2.out i (by omega), e', e, a2.out q (by omega)]
      exact hf _ _ (by omega) q2
end

/-! ### the same elements -/
def rowF (f : Nat → Int) (n : Nat) : List Int := (List.range n).map f
theorem rowF_length (f : Nat → Int) (n : Nat) : (rowF f n).length = n := by simp [rowF]
theorem rowF_get (f : Nat → Int) (n k : Nat) (h : k < n) : (rowF f n)[k]'(by rw [rowF_length]; exact h) = f k := by simp [rowF]
theorem rowF_fsw (f : Nat → Int) (n i j : Nat) : rowF (fsw f i j) n = ((rowF f n).set j (f i)).set i (f j) := by
  apply List.ext_getElem
  · simp [rowF]
  · intro k h1 h2
    rw [rowF_length] at h1
    rw [rowF_get _ _ _ h1]
    simp only [List.getElem_set, rowF_get _ _ _ h1, fsw]
    repeat' split
    all_goals first | rfl | omega
theorem perm_fsw (f : Nat → Int) (n i j : Nat) (hi : i < n) (hj : j < n) : (rowF (fsw f i j) n).Perm (rowF f n) := by
  have h := List.set_set_perm (as := rowF f n) (i := j) (j := i) (by rw [rowF_length]; exact hj) (by rw [rowF_length]; exact hi)
  rw [rowF_get _ _ _ hi, rowF_get _ _ _ hj] at h
  rw [rowF_fsw]
  exact h
section
variable {key : Int → Int} {n : Nat}
theorem perm_insIn (a : Nat) : ∀ (j : Nat) (f : Nat → Int), j < n → (rowF (insIn key a j f) n).Perm (rowF f n)
  | 0, f, _ => List.Perm.refl _
  | j + 1, f, h => by
    simp only [insIn]
    split
    · exact (perm_insIn a j _ (by omega)).trans (perm_fsw f n (j + 1) j h (by omega))
    · exact List.Perm.refl _
theorem perm_insRun (a : Nat) (f : Nat → Int) : ∀ m, a + m < n ∨ m = 0 → (rowF (insRun key a m f) n).Perm (rowF f n)
  | 0, _ => List.Perm.refl _
  | m + 1, h => by
    simp only [insRun]
    exact (perm_insIn a (a + 1 + m) _ (by omega)).trans (perm_insRun a f m (by omega))
theorem perm_mvUp (a : Nat) (f : Nat → Int) : ∀ t, a + t < n ∨ t = 0 → (rowF (mvUp a t f) n).Perm (rowF f n)
  | 0, _ => List.Perm.refl _
  | t + 1, h => (perm_fsw _ n (a + t) (a + t + 1) (by omega) (by omega)).trans (perm_mvUp a f t (by omega))
theorem perm_mvDn (m : Nat) (f : Nat → Int) : ∀ t, m < n → (rowF (mvDn m t f) n).Perm (rowF f n)
  | 0, _ => List.Perm.refl _
  | t + 1, h => (perm_fsw _ n (m - t) (m - t - 1) (by omega) (by omega)).trans (perm_mvDn m f t h)
theorem perm_swR (a b : Nat) (f : Nat → Int) : ∀ t, (a + t ≤ n ∧ b + t ≤ n) → (rowF (swR a b t f) n).Perm (rowF f n)
  | 0, _ => List.Perm.refl _
  | t + 1, h => (perm_fsw _ n (a + t) (b + t) (by omega) (by omega)).trans (perm_swR a b f t (by omega))
theorem perm_rot : ∀ (s m i j : Nat) (f : Nat → Int), i + j ≤ s → i ≤ m → m + j ≤ n → 0 < i → 0 < j → (rowF (rot m i j f) n).Perm (rowF f n) := by
  intro s
  induction s with
  | zero => intro m i j f h1 h2 h3 h4; omega
  | succ s ih =>
    intro m i j f h1 h2 h3 h4 h5
    rw [rot]
    split
    · exact perm_swR _ _ _ _ (by omega)
    · split
      · exact (ih m (i - j) j _ (by omega) (by omega) h3 (by omega) h5).trans (perm_swR _ _ _ _ (by omega))
      · exact (ih m i (j - i) _ (by omega) h2 (by omega) h4 (by omega)).trans (perm_swR _ _ _ _ (by omega))
theorem perm_sym : ∀ (t a m b : Nat) (f : Nat → Int), a < m → m < b → b ≤ n → (rowF (sym key t a m b f) n).Perm (rowF f n) := by
  intro t
  induction t with
  | zero => intro a m b f _ _ _; exact List.Perm.refl _
  | succ t ih =>
    intro a m b f ham hmb hb
    simp only [sym]
    split
    · have := (bsr_ok (fun h => decide (key (f h) < key (f a))) _ m b (Nat.le_refl _) (by omega)).2.1
      exact perm_mvUp _ _ _ (by omega)
    · split
      · exact perm_mvDn _ _ _ (by omega)
      · have hS := symS_ok ham hmb
        obtain ⟨t1, t2, _, _⟩ := symT_ok (key := key) ham hmb f
        obtain ⟨s, hs⟩ : ∃ s, s = symT key f a m b := ⟨_, rfl⟩
        rw [← hs] at t1 t2 ⊢
        generalize (symS a m b).1 = s0 at hS t1
        generalize (symS a m b).2 = r0 at hS t2
        obtain ⟨f1, hf1⟩ : ∃ f1, f1 = if s < m ∧ m < (a + b) / 2 + m - s then rot m (m - s) ((a + b) / 2 + m - s - m) f else f := ⟨_, rfl⟩
        rw [← hf1]
        have p1 : (rowF f1 n).Perm (rowF f n) := by
          rw [hf1]
          split
          · exact perm_rot _ _ _ _ _ (Nat.le_refl _) (by omega) (by omega) (by omega) (by omega)
          · exact List.Perm.refl _
        obtain ⟨f2, hf2⟩ : ∃ f2, f2 = if a < s ∧ s < (a + b) / 2 then sym key t a s ((a + b) / 2) f1 else f1 := ⟨_, rfl⟩
        rw [← hf2]
        have p2 : (rowF f2 n).Perm (rowF f1 n) := by
          rw [hf2]
          split
          · rename_i h; exact ih _ _ _ _ h.1 h.2 (by omega)
          · exact List.Perm.refl _
        refine List.Perm.trans ?_ (p2.trans p1)
        split
        · rename_i h; exact ih _ _ _ _ h.1 h.2 hb
        · exact List.Perm.refl _
theorem perm_stab (f : Nat → Int) : (rowF (stab key n f) n).Perm (rowF f n) := by
  unfold stab
  split
  · exact perm_insRun 0 f _ (by omega)
  · rename_i h
    exact (perm_sym _ _ _ _ _ (by omega) (by omega) (Nat.le_refl _)).trans ((perm_insRun 20 _ _ (by omega)).trans (perm_insRun 0 f 19 (by omega)))
end

/-! ### the places: one by one -/
/-- Walking down as long as a test holds. -/
def posD (p : Nat → Bool) : Nat → Nat
  | 0 => 0
  | k + 1 => if p k = true then posD p k else k + 1
theorem posD_ok (p : Nat → Bool) : ∀ k, posD p k ≤ k ∧ (∀ q, posD p k ≤ q → q < k → p q = true) ∧ (posD p k = 0 ∨ p (posD p k - 1) = false)
  | 0 => ⟨Nat.le_refl _, fun q _ h => by omega, .inl rfl⟩
  | k + 1 => by
    obtain ⟨h1, h2, h3⟩ := posD_ok p k
    simp only [posD]
    split
    · rename_i hp
      refine ⟨by omega, fun q hq1 hq2 => ?_, h3⟩
      by_cases e : q = k
      · rw [e]; exact hp
      · exact h2 q hq1 (by omega)
    · rename_i hp
      exact ⟨Nat.le_refl _, fun q h1 h2 => by omega, .inr (by simpa using hp)⟩
/-- Where the number i comes among places. -/
def plPos (key : Int → Int) (out : List Int) (i : Int) : Nat := posD (fun q => decide (key i < key (out.getD q 0))) out.length
def plL (key : Int → Int) : Nat → List Int
  | 0 => []
  | i + 1 => (plL key i).take (plPos key (plL key i) (i : Int)) ++ [(i : Int)] ++ (plL key i).drop (plPos key (plL key i) (i : Int))
theorem plL_length (key : Int → Int) : ∀ n, (plL key n).length = n
  | 0 => rfl
  | n + 1 => by
    have ih := plL_length key n
    have h : plPos key (plL key n) (n : Int) ≤ (plL key n).length := (posD_ok (fun q => decide (key n < key ((plL key n).getD q 0))) (plL key n).length).1
    simp only [plL, List.length_append, List.length_take, List.length_drop, List.length_singleton]
    omega
theorem plL_perm (key : Int → Int) : ∀ n, (plL key n).Perm (rowF (fun k => (k : Int)) n)
  | 0 => List.Perm.refl _
  | n + 1 => by
    have ih := plL_perm key n
    have h : rowF (fun k => (k : Int)) (n + 1) = rowF (fun k => (k : Int)) n ++ [(n : Int)] := by simp [rowF, List.range_succ]
    rw [h]
    simp only [plL]
    generalize plPos key (plL key n) (n : Int) = s
    have h1 : ((plL key n).take s ++ [(n : Int)] ++ (plL key n).drop s).Perm ([(n : Int)] ++ ((plL key n).take s ++ (plL key n).drop s)) := by
      rw [List.append_assoc, ← List.append_assoc [(n : Int)]]
      refine (List.perm_append_comm_assoc _ _ _).trans ?_
      rw [List.append_assoc]
    rw [List.take_append_drop] at h1
    exact h1.trans ((List.perm_append_comm).trans (List.Perm.append_right _ ih))
theorem plL_mem {key : Int → Int} {n : Nat} {z : Int} (h : z ∈ plL key n) : ∃ k : Nat, z = k ∧ k < n := by
  have := (plL_perm key n).mem_iff.1 h
  simp only [rowF, List.mem_map, List.mem_range] at this
  obtain ⟨k, hk, rfl⟩ := this
  exact ⟨k, rfl, hk⟩
theorem plL_sorted (key : Int → Int) : ∀ n, (plL key n).Pairwise (Rk key)
  | 0 => List.Pairwise.nil
  | n + 1 => by
    have ih := plL_sorted key n
    obtain ⟨h1, h2, h3⟩ := posD_ok (fun q => decide (key n < key ((plL key n).getD q 0))) (plL key n).length
    have hm : ∀ z ∈ plL key n, z < (n : Int) := fun z hz => by obtain ⟨k, rfl, hk⟩ := plL_mem hz; omega
    simp only [plL]
    change plPos key (plL key n) (n : Int) ≤ _ at h1
    change ∀ q, plPos key (plL key n) (n : Int) ≤ q → _ at h2
    change plPos key (plL key n) (n : Int) = 0 ∨ decide (key n < key ((plL key n).getD (plPos key (plL key n) (n : Int) - 1) 0)) = false at h3
    simp only [decide_eq_true_eq, decide_eq_false_iff_not] at h2 h3
    generalize plPos key (plL key n) (n : Int) = s at h1 h2 h3
    have hget : ∀ q (hq : q < (plL key n).length), (plL key n).getD q 0 = (plL key n)[q] := fun q hq => by simp [List.getD, hq]
    have hpre : ∀ q (hq : q < (plL key n).length), q < s → Rk key (plL key n)[q] (n : Int) := by
      intro q hq hqs
      have hs1 : s - 1 < (plL key n).length := by omega
      have hr : Rk key (plL key n)[s - 1] (n : Int) := Rk.of_not (by rcases h3 with h | h; omega; rw [hget _ hs1] at h; exact h) (hm _ (List.getElem_mem _))
      by_cases e : q = s - 1
      · subst e; exact hr
      · exact (List.pairwise_iff_getElem.1 ih q (s - 1) hq hs1 (by omega)).trans hr
    have hpost : ∀ q (hq : q < (plL key n).length), s ≤ q → Rk key (n : Int) (plL key n)[q] := by
      intro q hq hqs
      have := h2 q hqs hq
      rw [hget _ hq] at this
      exact Rk.of_lt this
    rw [List.append_assoc, List.pairwise_append]
    refine ⟨ih.sublist (List.take_sublist _ _), ?_, ?_⟩
    · rw [List.singleton_append, List.pairwise_cons]
      refine ⟨?_, ih.sublist (List.drop_sublist _ _)⟩
      intro z hz
      obtain ⟨q, hq, rfl⟩ := List.mem_iff_getElem.1 hz
      rw [List.getElem_drop]
      exact hpost _ _ (by omega)
    · intro x hx y hy
      obtain ⟨q, hq, rfl⟩ := List.mem_iff_getElem.1 hx
      rw [List.length_take] at hq
      rw [List.getElem_take]
      rcases List.mem_append.1 hy with hy | hy
      · rw [List.mem_singleton] at hy
        subst hy
        exact hpre q (by omega) (by omega)
      · obtain ⟨r, hr, rfl⟩ := List.mem_iff_getElem.1 hy
        rw [List.length_drop] at hr
        rw [List.getElem_drop]
        exact List.pairwise_iff_getElem.1 ih q (s + r) (by omega) (by omega) (by omega)
/-- A sorted row of the numbers below n is the places. -/
theorem places_unique {key : Int → Int} {n : Nat} {l : List Int} (hp : l.Perm (rowF (fun k => (k : Int)) n)) (hs : l.Pairwise (Rk key)) : l = plL key n :=
  List.Perm.eq_of_pairwise (le := Rk key) (fun _ _ _ _ h k => (h.asymm k).elim) hs (plL_sorted key n) (hp.trans (plL_perm key n).symm)
theorem stab_places (key : Int → Int) (n : Nat) : rowF (stab key n fun k => (k : Int)) n = plL key n := by
  refine places_unique (perm_stab _) ?_
  rw [List.pairwise_iff_getElem]
  intro i j hi hj hij
  rw [rowF_length] at hi hj
  rw [rowF_get _ _ _ hi, rowF_get _ _ _ hj]
  exact stab_ok n _ (fun i j h _ => by omega) i j (Nat.zero_le _) hij hj
end Go.Proofs.Yteeaeomkpecflaa
