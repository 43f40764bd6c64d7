/- The texts of program cards: splitting, runs of letters, reading them back. No walk here. -/
import Derived.Test.YtkmejkeanmjfbaaGreatDoorKd17
import Derived.Lib.ItoaNum
import Derived.Lib.SplitLaws
import Derived.Lib.Join
/-! ### RunsLaw -/
namespace Go.Proofs.YtkmejkeanmjfbaaGreatDoor
open Go.RowKit

/-! ### splitting at a byte -/
def splitW (c : UInt8) : List UInt8 → List (List UInt8)
  | [] => [[]]
  | b :: l => if b = c then [] :: splitW c l else match splitW c l with
    | [] => [[b]]
    | x :: r => (b :: x) :: r
theorem splitW_ne (c : UInt8) (l : List UInt8) : splitW c l ≠ [] := by
  cases l with
  | nil => simp [splitW]
  | cons b l =>
    unfold splitW
    split
    · simp
    · split <;> simp
theorem splitW_hit (c : UInt8) (l : List UInt8) : splitW c (c :: l) = [] :: splitW c l := by rw [splitW, if_pos rfl]
theorem splitW_miss {b c : UInt8} {l x : List UInt8} {r : List (List UInt8)} (h : b ≠ c) (hs : splitW c l = x :: r) : splitW c (b :: l) = (b :: x) :: r := by rw [splitW, if_neg h, hs]
theorem splitW_parts (c : UInt8) (l : List UInt8) : ∃ x r, splitW c l = x :: r := by
  cases h : splitW c l with
  | nil => exact absurd h (splitW_ne c l)
  | cons x r => exact ⟨x, r, rfl⟩
theorem ix_hit (c : UInt8) (l : List UInt8) : Lib.index (c :: l) [c] = ((0 : Nat) : Int) := by rw [Lib.index]; simp [List.isPrefixOf]
theorem ix_miss {b c : UInt8} {l : List UInt8} (h : b ≠ c) : Lib.index (b :: l) [c] = if Lib.index l [c] == -1 then -1 else Lib.index l [c] + 1 := by
  have hp : ([c] : List UInt8).isPrefixOf (b :: l) = false := by simp [List.isPrefixOf, Ne.symm h]
  rw [Lib.index, hp]
  simp
theorem split_lib (c : UInt8) : ∀ l : List UInt8, Lib.splitK [c] 0 (l.count c) l = splitW c l
  | [] => rfl
  | b :: l => by
    have ih := split_lib c l
    by_cases h : b = c
    · subst h
      rw [List.count_cons_self, Lib.splitK, ix_hit, if_neg (by decide), splitW_hit, ← ih]
      simp
    · obtain ⟨x, r, hx⟩ := splitW_parts c l
      rw [List.count_cons_of_ne h, splitW_miss h hx]
      rw [hx] at ih
      cases hc : l.count c with
      | zero =>
        rw [hc, Lib.splitK] at ih
        injection ih with h1 h2
        rw [Lib.splitK, h1, h2]
      | succ j =>
        rw [hc, Lib.splitK] at ih
        have hne : ¬ (Lib.index l [c] == -1) = true := fun e => by
          have := Lib.count_miss (beq_iff_eq.1 e)
          rw [Lib.count_one] at this
          omega
        rw [if_neg hne] at ih
        have hge := Lib.index_ge l [c]
        have hn1 : Lib.index l [c] ≠ -1 := fun e => hne (beq_iff_eq.2 e)
        obtain ⟨i, hi⟩ : ∃ i : Nat, Lib.index l [c] = i := ⟨(Lib.index l [c]).toNat, by omega⟩
        rw [hi] at ih
        injection ih with h1 h2
        rw [Lib.splitK, ix_miss h, if_neg hne, hi, if_neg (by simp; omega), show ((i : Int) + 1).toNat = i + 1 by omega, ← h1, ← h2]
        simp
theorem split_bytes (c : UInt8) (s : ByteArray) : (Lib.splitB ⟨#[c]⟩ 0 (Lib.countB s ⟨#[c]⟩) s).map byt = splitW c (byt s) := by
  have h := Lib.splitB_data ⟨#[c]⟩ 0 (Lib.countB s ⟨#[c]⟩) s
  rw [show Lib.countB s ⟨#[c]⟩ = (byt s).count c from Lib.count_one c s.data.toList] at h ⊢
  exact h.trans (split_lib c _)
theorem splitW_snoc {c b : UInt8} : ∀ {l x : List UInt8} {d : List (List UInt8)}, splitW c l = d ++ [x] → splitW c (l ++ [b]) = if b = c then d ++ [x] ++ [[]] else d ++ [x ++ [b]]
  | [], x, d, h => by
    rw [splitW] at h
    have hd : d = [] ∧ x = [] := by
      cases d with
      | nil => simpa using h.symm
      | cons a t => simp at h
    obtain ⟨rfl, rfl⟩ := hd
    by_cases hb : b = c
    · simp [splitW, hb]
    · simp [splitW, hb]
  | a :: l, x, d, h => by
    rw [List.cons_append]
    by_cases ha : a = c
    · subst ha
      rw [splitW_hit] at h ⊢
      cases d with
      | nil =>
        simp at h
        exact absurd h.2 (splitW_ne a l)
      | cons y t =>
        rw [List.cons_append] at h
        injection h with h1 h2
        subst h1
        rw [splitW_snoc h2]
        split <;> simp
    · obtain ⟨y, r, hy⟩ := splitW_parts c l
      rw [splitW_miss ha hy] at h
      cases d with
      | nil =>
        simp at h
        obtain ⟨rfl, rfl⟩ := h
        have ih := splitW_snoc (b := b) (d := []) (x := y) (by simpa using hy)
        by_cases hb : b = c
        · rw [if_pos hb] at ih ⊢
          rw [splitW_miss ha ih]
          simp
        · rw [if_neg hb] at ih ⊢
          rw [splitW_miss ha ih]
          simp
      | cons z t =>
        rw [List.cons_append] at h
        injection h with h1 h2
        subst h1
        have ih := splitW_snoc (b := b) (d := y :: t) (x := x) (by rw [hy, h2]; rfl)
        by_cases hb : b = c
        · rw [if_pos hb] at ih ⊢
          rw [splitW_miss ha ih]
          simp
        · rw [if_neg hb] at ih ⊢
          rw [splitW_miss ha ih]
          simp
theorem join_splitW (c : UInt8) : ∀ l : List UInt8, Lib.join (splitW c l) [c] = l
  | [] => rfl
  | b :: l => by
    have ih := join_splitW c l
    obtain ⟨x, r, hx⟩ := splitW_parts c l
    by_cases h : b = c
    · subst h
      rw [splitW_hit, hx, Lib.join_cons]
      rw [hx, Lib.join_cons] at ih
      simp [Lib.joinTail]
      exact ih
    · rw [splitW_miss h hx, Lib.join_cons]
      rw [hx, Lib.join_cons] at ih
      rw [List.cons_append, ih]
theorem splitW_free {c : UInt8} {l : List UInt8} (h : c ∉ l) : splitW c l = [l] := by
  induction l with
  | nil => rfl
  | cons b l ih =>
    have hb : b ≠ c := fun e => h (by simp [e])
    rw [splitW_miss hb (ih fun e => h (by simp [e]))]
theorem splitW_app {c : UInt8} {x t : List UInt8} (h : c ∉ x) : splitW c (x ++ c :: t) = x :: splitW c t := by
  induction x with
  | nil => rw [List.nil_append, splitW_hit]
  | cons b l ih =>
    have hb : b ≠ c := fun e => h (by simp [e])
    rw [List.cons_append, splitW_miss hb (ih fun e => h (by simp [e]))]
theorem splitW_join {c : UInt8} : ∀ {ws : List (List UInt8)}, ws ≠ [] → (∀ w ∈ ws, c ∉ w) → splitW c (Lib.join ws [c]) = ws
  | [], h, _ => absurd rfl h
  | [x], _, h => by rw [Lib.join_one, splitW_free (h x (by simp))]
  | x :: y :: r, _, h => by
    have e : Lib.join (x :: y :: r) [c] = x ++ c :: Lib.join (y :: r) [c] := by
      rw [Lib.join_cons, Lib.join_cons]
      simp [Lib.joinTail]
    rw [e, splitW_app (h x (by simp)), splitW_join (by simp) fun w hw => h w (by simp at hw ⊢; exact .inr hw)]
theorem splitW_len (c : UInt8) : ∀ l : List UInt8, (splitW c l).length ≤ l.length + 1
  | [] => by simp [splitW]
  | b :: l => by
    have ih := splitW_len c l
    obtain ⟨x, r, hx⟩ := splitW_parts c l
    by_cases h : b = c
    · subst h; rw [splitW_hit]; simp; omega
    · rw [splitW_miss h hx]; rw [hx] at ih; simp at ih ⊢; omega
theorem splitW_word (c : UInt8) : ∀ l : List UInt8, ∀ w ∈ splitW c l, w.length ≤ l.length
  | [], w, h => by simp [splitW] at h; simp [h]
  | b :: l, w, h => by
    obtain ⟨x, r, hx⟩ := splitW_parts c l
    have ih := splitW_word c l
    by_cases hb : b = c
    · subst hb
      rw [splitW_hit] at h
      rcases List.mem_cons.1 h with rfl | h
      · simp
      · have := ih w h; simp; omega
    · rw [splitW_miss hb hx] at h
      rw [hx] at ih
      rcases List.mem_cons.1 h with rfl | h
      · have := ih x (by simp); simp; omega
      · have := ih w (by simp [h]); simp; omega

/-! ### the numbers from 1 to 20 -/
def t20 (n : Nat) : List UInt8 := if n < 10 then [UInt8.ofNat (48 + n)] else [UInt8.ofNat (48 + n / 10), UInt8.ofNat (48 + n % 10)]
theorem itoa_t20 {n : Nat} (h : n < 100) : Lib.itoa (n : Int) = t20 n := by
  unfold Lib.itoa t20
  rw [if_neg (by omega), show ((n : Int)).toNat = n by omega]
  by_cases h1 : n < 10
  · rw [if_pos h1, Lib.decDigits_one h1]
  · rw [if_neg h1, Lib.decDigits_two h1 h]
theorem t20_inj : ∀ a b : Fin 21, t20 a.val = t20 b.val → a = b := by decide +kernel
theorem t20_free : ∀ a : Fin 21, (32 : UInt8) ∉ t20 a.val := by decide +kernel
def numD (t : List UInt8) : Option Nat := (List.range 21).find? fun n => decide (1 ≤ n) && t20 n == t
theorem numD_iff {t : List UInt8} {n : Nat} : numD t = some n ↔ 1 ≤ n ∧ n ≤ 20 ∧ t = t20 n := by
  unfold numD
  constructor
  · intro h
    have h1 := List.find?_some h
    have h2 := List.mem_of_find?_eq_some h
    simp at h1 h2
    exact ⟨h1.1, by omega, h1.2.symm⟩
  · rintro ⟨h1, h2, rfl⟩
    cases hf : (List.range 21).find? fun m => decide (1 ≤ m) && t20 m == t20 n with
    | none =>
      have := List.find?_eq_none.1 hf n (by simp; omega)
      simp at this
      omega
    | some m =>
      have h3 := List.find?_some hf
      have h4 := List.mem_of_find?_eq_some hf
      simp at h3 h4
      have := t20_inj ⟨m, h4⟩ ⟨n, by omega⟩ h3.2
      injection this with e
      rw [e]
def wordR : List UInt8 → Option (UInt8 × Nat)
  | [] => none
  | c :: t => (numD t).map fun n => (c, n)
theorem wordR_iff {w : List UInt8} {c : UInt8} {n : Nat} : wordR w = some (c, n) ↔ 1 ≤ n ∧ n ≤ 20 ∧ w = c :: t20 n := by
  cases w with
  | nil => simp [wordR]
  | cons a t =>
    simp only [wordR, Option.map_eq_some_iff, Prod.mk.injEq, List.cons.injEq]
    constructor
    · rintro ⟨m, hm, rfl, rfl⟩
      obtain ⟨h1, h2, h3⟩ := numD_iff.1 hm
      exact ⟨h1, h2, rfl, h3⟩
    · rintro ⟨h1, h2, rfl, h3⟩
      exact ⟨n, numD_iff.2 ⟨h1, h2, h3⟩, rfl, rfl⟩
def wordOf (r : UInt8 × Nat) : List UInt8 := r.1 :: t20 r.2

/-! ### runs -/
def runsL : List UInt8 → List (UInt8 × Nat)
  | [] => []
  | c :: l => match runsL l with
    | [] => [(c, 1)]
    | (d, n) :: r => if c = d then (d, n + 1) :: r else (c, 1) :: (d, n) :: r
def expand (rs : List (UInt8 × Nat)) : List UInt8 := (rs.map fun r => List.replicate r.2 r.1).flatten
def altR : List (UInt8 × Nat) → Prop
  | [] => True
  | [_] => True
  | a :: b :: r => a.1 ≠ b.1 ∧ altR (b :: r)
theorem expand_nil : expand [] = [] := rfl
theorem expand_cons (r : UInt8 × Nat) (rs : List (UInt8 × Nat)) : expand (r :: rs) = List.replicate r.2 r.1 ++ expand rs := rfl
theorem expand_snoc (rs : List (UInt8 × Nat)) (r : UInt8 × Nat) : expand (rs ++ [r]) = expand rs ++ List.replicate r.2 r.1 := by simp [expand]
theorem runs_rep {c : UInt8} {l : List UInt8} : ∀ {m : Nat}, (∀ b ∈ l.head?, b ≠ c) → runsL (List.replicate (m + 1) c ++ l) = (c, m + 1) :: runsL l
  | 0, h => by
    show runsL (c :: l) = _
    cases l with
    | nil => rfl
    | cons b t =>
      have hb : b ≠ c := h b (by simp)
      obtain ⟨d, n, r, hr, hd⟩ : ∃ d n r, runsL (b :: t) = (d, n) :: r ∧ d = b := by
        rw [runsL]
        split
        · exact ⟨b, 1, [], rfl, rfl⟩
        · rename_i d n r hh
          by_cases hbd : b = d
          · rw [if_pos hbd]; exact ⟨d, n + 1, r, rfl, hbd.symm⟩
          · rw [if_neg hbd]; exact ⟨b, 1, _, rfl, rfl⟩
      rw [runsL, hr]
      subst hd
      simp [Ne.symm hb]
  | m + 1, h => by
    rw [List.replicate_succ, List.cons_append, runsL, runs_rep h]
    simp
theorem altR_tail {a : UInt8 × Nat} {t : List (UInt8 × Nat)} (h : altR (a :: t)) : altR t := by
  cases t with
  | nil => trivial
  | cons b r => exact h.2
theorem runsL_expand {rs : List (UInt8 × Nat)} (ha : altR rs) (h : ∀ r ∈ rs, 1 ≤ r.2) : runsL (expand rs) = rs := by
  induction rs with
  | nil => rfl
  | cons a t ih =>
    have ih := ih (altR_tail ha) fun x hx => h x (by simp [hx])
    obtain ⟨c, n⟩ := a
    obtain ⟨m, rfl⟩ : ∃ m, n = m + 1 := ⟨n - 1, by have := h (c, n) (by simp); simp at this; omega⟩
    rw [expand_cons, runs_rep, ih]
    intro x hx
    cases t with
    | nil => simp [expand] at hx
    | cons b r =>
      obtain ⟨d, k⟩ := b
      obtain ⟨j, rfl⟩ : ∃ j, k = j + 1 := ⟨k - 1, by have := h (d, k) (by simp); simp at this; omega⟩
      rw [expand_cons, List.replicate_succ] at hx
      simp at hx
      subst hx
      exact Ne.symm ha.1
theorem runsL_back (l : List UInt8) : expand (runsL l) = l ∧ altR (runsL l) ∧ ∀ r ∈ runsL l, 1 ≤ r.2 := by
  induction l with
  | nil => exact ⟨rfl, trivial, by simp [runsL]⟩
  | cons c l ih =>
    obtain ⟨h1, h2, h3⟩ := ih
    rw [runsL]
    split
    · rename_i h
      rw [h] at h1
      refine ⟨?_, trivial, by simp⟩
      rw [← h1]
      rfl
    · rename_i d n r h
      rw [h] at h1 h2 h3
      by_cases hd : c = d
      · rw [if_pos hd]
        subst hd
        refine ⟨?_, ?_, ?_⟩
        · rw [← h1, expand_cons, expand_cons, List.replicate_succ]; rfl
        · cases r with
          | nil => trivial
          | cons b t => exact h2
        · intro x hx
          rcases List.mem_cons.1 hx with rfl | hx
          · simp
          · exact h3 x (by simp [hx])
      · rw [if_neg hd]
        refine ⟨?_, ⟨hd, h2⟩, ?_⟩
        · rw [← h1]; rfl
        · intro x hx
          rcases List.mem_cons.1 hx with rfl | hx
          · simp
          · exact h3 x hx
theorem altR_snoc : ∀ {rs : List (UInt8 × Nat)} {r : UInt8 × Nat}, altR (rs ++ [r]) ↔ altR rs ∧ ∀ a ∈ rs.getLast?, a.1 ≠ r.1
  | [], r => by simp [altR]
  | [a], r => by simp [altR]
  | a :: b :: t, r => by
    have ih := altR_snoc (rs := b :: t) (r := r)
    rw [List.cons_append, List.cons_append, altR, ← List.cons_append, ih, altR, List.getLast?_cons_cons]
    exact ⟨fun h => ⟨⟨h.1, h.2.1⟩, h.2.2⟩, fun h => ⟨h.1.1, h.1.2, h.2⟩⟩
theorem last_expand {rs : List (UInt8 × Nat)} {r : UInt8 × Nat} (h : 1 ≤ r.2) : (expand (rs ++ [r])).getLast? = some r.1 := by
  rw [expand_snoc]
  obtain ⟨m, hm⟩ : ∃ m, r.2 = m + 1 := ⟨r.2 - 1, by omega⟩
  rw [hm, List.replicate_succ', ← List.append_assoc]
  simp

/-! ### reading -/
def readW : List (List UInt8) → Option (List (UInt8 × Nat))
  | [] => some []
  | w :: r => match wordR w with
    | none => none
    | some a => match readW r with
      | none => none
      | some b => some (a :: b)
theorem readW_cons {w : List UInt8} {r : List (List UInt8)} {a : UInt8 × Nat} {b : List (UInt8 × Nat)} (h : wordR w = some a) (k : readW r = some b) : readW (w :: r) = some (a :: b) := by rw [readW, h, k]
theorem readW_inv {w : List UInt8} {r : List (List UInt8)} {x : List (UInt8 × Nat)} (h : readW (w :: r) = some x) : ∃ a b, x = a :: b ∧ wordR w = some a ∧ readW r = some b := by
  rw [readW] at h
  cases hw : wordR w with
  | none => rw [hw] at h; simp at h
  | some a =>
    cases hr : readW r with
    | none => rw [hw, hr] at h; simp at h
    | some b => rw [hw, hr] at h; simp at h; exact ⟨a, b, h.symm, rfl, rfl⟩
theorem readW_snoc : ∀ {l : List (List UInt8)} {w : List UInt8} {rs : List (UInt8 × Nat)} {r : UInt8 × Nat}, readW l = some rs → wordR w = some r → readW (l ++ [w]) = some (rs ++ [r])
  | [], w, rs, r, h, k => by simp [readW] at h; subst h; exact readW_cons k rfl
  | a :: l, w, rs, r, h, k => by
    obtain ⟨x, y, rfl, h1, h2⟩ := readW_inv h
    exact readW_cons h1 (readW_snoc h2 k)
/-- A whole text's words are read as its first words are. -/
theorem readW_take : ∀ {l : List (List UInt8)} {x : List (UInt8 × Nat)} {k : Nat}, readW l = some x → readW (l.take k) = some (x.take k)
  | [], x, k, h => by simp [readW] at h; subst h; simp [readW]
  | w :: l, x, 0, h => by simp [readW]
  | w :: l, x, k + 1, h => by
    obtain ⟨a, b, rfl, h1, h2⟩ := readW_inv h
    exact readW_cons h1 (readW_take h2)
theorem readW_len : ∀ {l : List (List UInt8)} {x : List (UInt8 × Nat)}, readW l = some x → x.length = l.length
  | [], x, h => by simp [readW] at h; subst h; rfl
  | w :: l, x, h => by
    obtain ⟨a, b, rfl, h1, h2⟩ := readW_inv h
    simp [readW_len h2]
theorem readW_word {l : List (List UInt8)} {x : List (UInt8 × Nat)} (h : readW l = some x) : l = x.map wordOf ∧ ∀ r ∈ x, 1 ≤ r.2 ∧ r.2 ≤ 20 := by
  induction l generalizing x with
  | nil => simp [readW] at h; subst h; simp
  | cons w l ih =>
    obtain ⟨a, b, rfl, h1, h2⟩ := readW_inv h
    obtain ⟨e1, e2⟩ := ih h2
    obtain ⟨h3, h4, h5⟩ := wordR_iff.1 (show wordR w = some (a.1, a.2) from h1)
    refine ⟨?_, ?_⟩
    · rw [List.map_cons, ← e1, h5]; rfl
    · intro r hr
      rcases List.mem_cons.1 hr with rfl | hr
      · exact ⟨h3, h4⟩
      · exact e2 r hr
theorem readW_of {x : List (UInt8 × Nat)} (h : ∀ r ∈ x, 1 ≤ r.2 ∧ r.2 ≤ 20) : readW (x.map wordOf) = some x := by
  induction x with
  | nil => rfl
  | cons a b ih =>
    have ha := h a (by simp)
    exact readW_cons (wordR_iff.2 ⟨ha.1, ha.2, rfl⟩) (ih fun r hr => h r (by simp [hr]))
def altD : (rs : List (UInt8 × Nat)) → Decidable (altR rs)
  | [] => isTrue trivial
  | [_] => isTrue trivial
  | _ :: b :: r => @instDecidableAnd _ _ inferInstance (altD (b :: r))
instance : DecidablePred altR := altD
/-- The program card of a text; none if there is none. -/
def rrO (s : List UInt8) : Option (List UInt8) := match readW (splitW 32 s) with
  | none => none
  | some rs => if altR rs ∧ progB (bs_ (expand rs)) = true then some (expand rs) else none
/-- The text of a program card. -/
def runsT (p : List UInt8) : List UInt8 := Lib.join ((runsL p).map wordOf) [32]
def runsO (p : ByteArray) : List UInt8 := if progB p = true then runsT (byt p) else []
theorem byt_bs' (l : List UInt8) : byt (bs_ l) = l := by simp [byt, bs_]
theorem rr_none {s : List UInt8} (h : readW (splitW 32 s) = none) : rrO s = none := by unfold rrO; rw [h]
theorem rr_some {s : List UInt8} {rs : List (UInt8 × Nat)} (h : readW (splitW 32 s) = some rs) : rrO s = if altR rs ∧ progB (bs_ (expand rs)) = true then some (expand rs) else none := by unfold rrO; rw [h]
theorem progB_letters {p : List UInt8} (h : progB (bs_ p) = true) : ∀ c ∈ p, letC c = true := by
  unfold progB at h
  simp only [Bool.and_eq_true, byt_bs', List.all_eq_true] at h
  exact h.1
theorem letC_no32 : ∀ n : Fin 256, letC (UInt8.ofNat n.val) = true → UInt8.ofNat n.val ≠ 32 := by decide +kernel
theorem no32 {c : UInt8} (h : letC c = true) : c ≠ 32 := by
  have := letC_no32 ⟨c.toNat, c.toNat_lt⟩
  simp only [UInt8.ofNat_toNat] at this
  exact this h
theorem mem_expand {rs : List (UInt8 × Nat)} {r : UInt8 × Nat} (hr : r ∈ rs) (h : 1 ≤ r.2) : r.1 ∈ expand rs := by
  unfold expand
  rw [List.mem_flatten]
  exact ⟨_, List.mem_map.2 ⟨r, hr, rfl⟩, by rw [List.mem_replicate]; exact ⟨by omega, rfl⟩⟩
theorem expand_len {rs : List (UInt8 × Nat)} {r : UInt8 × Nat} (hr : r ∈ rs) : r.2 ≤ (expand rs).length := by
  induction rs with
  | nil => simp at hr
  | cons a t ih =>
    rw [expand_cons, List.length_append, List.length_replicate]
    rcases List.mem_cons.1 hr with rfl | hr
    · omega
    · have := ih hr; omega
theorem free_word {r : UInt8 × Nat} (h1 : letC r.1 = true) (h2 : r.2 ≤ 20) : (32 : UInt8) ∉ wordOf r := by
  unfold wordOf
  intro e
  rcases List.mem_cons.1 e with e | e
  · exact no32 h1 e.symm
  · exact t20_free ⟨r.2, by omega⟩ e
/-- Reading a text's runs back: the two ways. -/
theorem rr_back {s : List UInt8} {rs : List (UInt8 × Nat)} (h : readW (splitW 32 s) = some rs) : (runsO (bs_ (expand rs)) = s → rrO s = some (expand rs)) ∧ (runsO (bs_ (expand rs)) ≠ s → rrO s = none) := by
  obtain ⟨hw, hn⟩ := readW_word h
  have hs : s = Lib.join (rs.map wordOf) [32] := by rw [← hw, join_splitW]
  have hne : rs ≠ [] := fun e => by
    rw [e] at hw
    exact splitW_ne _ _ hw
  rw [rr_some h]
  by_cases hp : progB (bs_ (expand rs)) = true
  · have hO : runsO (bs_ (expand rs)) = runsT (expand rs) := by unfold runsO; rw [if_pos hp, byt_bs']
    rw [hO]
    constructor
    · intro he
      rw [if_pos]
      refine ⟨?_, hp⟩
      obtain ⟨e1, e2, e3⟩ := runsL_back (expand rs)
      have hlt := progB_len hp
      rw [bs_size] at hlt
      have hfree : ∀ w ∈ (runsL (expand rs)).map wordOf, (32 : UInt8) ∉ w := by
        intro w hw
        obtain ⟨r, hr, rfl⟩ := List.mem_map.1 hw
        refine free_word (progB_letters hp _ ?_) ?_
        · rw [← e1]; exact mem_expand hr (e3 r hr)
        · have := expand_len hr
          rw [e1] at this
          omega
      have hne2 : (runsL (expand rs)).map wordOf ≠ [] := by
        intro e
        have e4 : runsL (expand rs) = [] := by simpa using e
        rw [e4] at e1
        rw [← e1] at hlt
        simp [expand] at hlt
      have hsp := splitW_join hne2 hfree
      unfold runsT at he
      rw [he, hw] at hsp
      have hr1 := readW_of hn
      have hr2 := readW_of (x := runsL (expand rs)) fun r hr => ⟨e3 r hr, by
        have := expand_len hr
        rw [e1] at this
        omega⟩
      rw [← hsp, hr1] at hr2
      injection hr2 with hr2
      rw [hr2]
      exact e2
    · intro he
      rw [if_neg]
      rintro ⟨ha, _⟩
      apply he
      unfold runsT
      rw [runsL_expand ha fun r hr => (hn r hr).1, ← hs]
  · have hO : runsO (bs_ (expand rs)) = [] := by unfold runsO; rw [if_neg hp]
    rw [hO, if_neg (fun e => hp e.2)]
    refine ⟨fun he => ?_, fun _ => rfl⟩
    exfalso
    rw [← he] at hs
    cases rs with
    | nil => exact hne rfl
    | cons a t =>
      rw [List.map_cons, Lib.join_cons] at hs
      simp [wordOf] at hs
/-- A card that is too long is none. -/
theorem rr_long {s : List UInt8} {rs : List (UInt8 × Nat)} {k : Nat} (h : readW (splitW 32 s) = some rs) (hk : 20 < (expand (rs.take k)).length) : rrO s = none := by
  rw [rr_some h, if_neg]
  rintro ⟨_, hp⟩
  have := (progB_len hp).2
  rw [bs_size] at this
  have e : expand rs = expand (rs.take k) ++ expand (rs.drop k) := by
    unfold expand
    rw [← List.flatten_append, ← List.map_append, List.take_append_drop]
  rw [e, List.length_append] at this
  omega
def rrB (s : List UInt8) : Bool := (rrO s).isSome
def rrS (s : List UInt8) : ByteArray := bs_ ((rrO s).getD [])
end Go.Proofs.YtkmejkeanmjfbaaGreatDoor
