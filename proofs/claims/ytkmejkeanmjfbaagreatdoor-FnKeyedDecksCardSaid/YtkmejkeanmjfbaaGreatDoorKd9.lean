/- Ranks of columns, texts of fields, comparing; no walk here. Ranks of columns and of characters, comparing; in the program and in the reference. -/
import Derived.Test.YtkmejkeanmjfbaaGreatDoorKd3
import Derived.Test.YtkmejkeanmjfbaaGreatDoorKd8
import Derived.Test.YtkmejkeanmjfbaaGreatDoorKd7
import Derived.Test.YtkmejkeanmjfbaaGreatDoorKd4
/-! ### RankAll -/
/-! ### Ranks of columns, texts of fields, comparing; no walk here. -/
namespace Go.Proofs.YtkmejkeanmjfbaaGreatDoor
open Go.RowKit

/-- The rank of the character of a column, -1 if it has none. -/
def rankM (m : Int) : Int := idxP (fun c : UInt8 => codeV c.toNat == m) charL
theorem rankM_hit {m : Int} {k : Nat} (hk : k < 40) (h : (charL.take k).any (fun c : UInt8 => codeV c.toNat == m) = false) (hp : codeV (charL[k]'hk).toNat = m) : rankM m = k :=
  idxP_some (p := fun c : UInt8 => codeV c.toNat == m) hk h (by simpa using hp)
theorem rankM_none {m : Int} (h : charL.any (fun c : UInt8 => codeV c.toNat == m) = false) : rankM m = -1 := idxP_none h
theorem rankM_range (m : Int) : -1 ≤ rankM m ∧ rankM m ≤ 39 := by
  unfold rankM idxP
  split
  · rename_i h
    obtain ⟨x, hx, hpx⟩ := List.any_eq_true.1 h
    have := List.findIdx_lt_length_of_exists (p := fun c : UInt8 => codeV c.toNat == m) ⟨x, hx, hpx⟩
    have e : charL.length = 40 := rfl
    omega
  · omega
/-- Does a column have a character? -/
def legalM (m : Int) : Bool := decide (0 ≤ rankM m)
def legalL (xs : List Int) : Bool := xs.all legalM
/-- The character of a column. -/
def charM (m : Int) : UInt8 := charL.getD (rankM m).toNat 0
theorem charM_of {m : Int} {k : Nat} (hk : k < 40) (h : rankM m = k) : charM m = charL[k]'hk := by
  unfold charM
  rw [h]
  simp only [Int.toNat_natCast, List.getD]
  rw [List.getElem?_eq_getElem (show k < charL.length from hk)]
  rfl
/-- The rank of a character. -/
def rankC (c : UInt8) : Int := idxP (fun x : UInt8 => x == c) charL
theorem rankC_char (m : Int) (h : legalM m = true) : rankC (charM m) = rankM m := by
  have h0 : 0 ≤ rankM m := by simpa [legalM] using h
  have h1 := (rankM_range m).2
  obtain ⟨k, hk⟩ : ∃ k : Nat, rankM m = k := ⟨(rankM m).toNat, by omega⟩
  have hk40 : k < 40 := by omega
  rw [charM_of hk40 hk, hk]
  have : ∀ k : Fin 40, rankC (charL[k.val]'k.isLt) = (k.val : Int) := by decide +kernel
  exact this ⟨k, hk40⟩
theorem charM_inj {a b : Int} (ha : legalM a = true) (hb : legalM b = true) : (charM a = charM b) ↔ (rankM a = rankM b) := by
  constructor
  · intro h
    rw [← rankC_char a ha, ← rankC_char b hb, h]
  · intro h
    unfold charM
    rw [h]
def textL (xs : List Int) : List UInt8 := xs.map charM
/-- Comparing by numbers, the first that differ. -/
def cmpN : List Int → List Int → Int
  | x :: xs, y :: ys => if x < y then -1 else if y < x then 1 else cmpN xs ys
  | _, _ => 0
/-- Comparing columns by ranks. -/
def cmpR (xs ys : List Int) : Int := cmpN (xs.map rankM) (ys.map rankM)
/-- Comparing texts. -/
def cmpT (s t : List UInt8) : Int := cmpN (s.map rankC) (t.map rankC)
theorem textL_ranks {xs : List Int} (h : legalL xs = true) : (textL xs).map rankC = xs.map rankM := by
  unfold textL
  rw [List.map_map]
  apply List.map_congr_left
  intro m hm
  exact rankC_char m (List.all_eq_true.1 h m hm)
theorem cmpT_text {xs ys : List Int} (hx : legalL xs = true) (hy : legalL ys = true) : cmpT (textL xs) (textL ys) = cmpR xs ys := by
  unfold cmpT cmpR
  rw [textL_ranks hx, textL_ranks hy]
theorem cmpN_range : ∀ (xs ys : List Int), cmpN xs ys = -1 ∨ cmpN xs ys = 0 ∨ cmpN xs ys = 1
  | [], _ => .inr (.inl rfl)
  | _ :: _, [] => .inr (.inl rfl)
  | x :: xs, y :: ys => by
    unfold cmpN
    split
    · exact .inl rfl
    · split
      · exact .inr (.inr rfl)
      · exact cmpN_range xs ys
theorem cmpN_prefix : ∀ (k : Nat) (xs ys : List Int), xs.take k = ys.take k → k ≤ xs.length → k ≤ ys.length → cmpN xs ys = cmpN (xs.drop k) (ys.drop k)
  | 0, _, _, _, _, _ => rfl
  | k + 1, [], _, _, h, _ => by simp at h
  | k + 1, _ :: _, [], _, _, h => by simp at h
  | k + 1, x :: xs, y :: ys, h, h1, h2 => by
    simp only [List.take_succ_cons, List.cons.injEq] at h
    obtain ⟨rfl, h⟩ := h
    rw [List.drop_succ_cons, List.drop_succ_cons, ← cmpN_prefix k xs ys h (by simpa using h1) (by simpa using h2)]
    simp [cmpN]
theorem cmpN_at {xs ys : List Int} {k : Nat} (h : xs.take k = ys.take k) (hx : k < xs.length) (hy : k < ys.length) : (xs[k] < ys[k] → cmpN xs ys = -1) ∧ (ys[k] < xs[k] → cmpN xs ys = 1) := by
  rw [cmpN_prefix k xs ys h (by omega) (by omega), List.drop_eq_getElem_cons hx, List.drop_eq_getElem_cons hy]
  refine ⟨fun hlt => ?_, fun hgt => ?_⟩
  · unfold cmpN
    rw [if_pos hlt]
  · unfold cmpN
    rw [if_neg (by omega), if_pos hgt]
theorem cmpN_same {xs ys : List Int} {k : Nat} (h : xs.take k = ys.take k) (hx : xs.length ≤ k) (hl : xs.length = ys.length) : cmpN xs ys = 0 := by
  rw [List.take_of_length_le hx, List.take_of_length_le (by omega)] at h
  subst h
  have : ∀ l : List Int, cmpN l l = 0 := by
    intro l
    induction l with
    | nil => rfl
    | cons a l ih => simp [cmpN, ih]
  exact this xs
theorem cmpN_zero : ∀ {xs ys : List Int}, xs.length = ys.length → (cmpN xs ys = 0 ↔ xs = ys)
  | [], [], _ => by simp [cmpN]
  | [], _ :: _, h => by simp at h
  | _ :: _, [], h => by simp at h
  | x :: xs, y :: ys, h => by
    have ih := cmpN_zero (xs := xs) (ys := ys) (by simpa using h)
    unfold cmpN
    constructor
    · intro h0
      split at h0
      · omega
      · split at h0
        · omega
        · rw [ih.1 h0, show x = y by omega]
    · intro h0
      simp only [List.cons.injEq] at h0
      obtain ⟨rfl, rfl⟩ := h0
      simp [ih.2 rfl]
theorem text_eq {xs ys : List Int} (hx : legalL xs = true) (hy : legalL ys = true) (hl : xs.length = ys.length) : (textL xs = textL ys) ↔ cmpR xs ys = 0 := by
  unfold cmpR
  rw [cmpN_zero (by simpa using hl)]
  constructor
  · intro h
    rw [← textL_ranks hx, ← textL_ranks hy, h]
  · intro h
    unfold textL
    apply List.ext_getElem?
    intro i
    have h1 := congrArg (fun l => l[i]?) h
    simp only [List.getElem?_map] at h1 ⊢
    cases hxi : xs[i]? with
    | none =>
      rw [hxi] at h1
      cases hyi : ys[i]? with
      | none => rfl
      | some b => rw [hyi] at h1; simp at h1
    | some a =>
      rw [hxi] at h1
      cases hyi : ys[i]? with
      | none => rw [hyi] at h1; simp at h1
      | some b =>
        rw [hyi] at h1
        simp only [Option.map_some, Option.some.injEq] at h1 ⊢
        unfold charM
        rw [h1]

/-- The columns of a field. -/
def part (xs : List Int) (a b : Int) : List Int := (xs.drop a.toNat).take (b.toNat - a.toNat)
theorem part_length {xs : List Int} {a b : Int} (h0 : 0 ≤ a) (h1 : a < b) (h2 : b ≤ xs.length) : (part xs a b).length = b.toNat - a.toNat := by
  unfold part
  rw [List.length_take, List.length_drop]
  omega
theorem fieldOk_nat {a b : Int} {n : Nat} (h : fieldOk a b (n : Int) = true) : ∃ i j : Nat, a = (i : Int) ∧ b = (j : Int) ∧ i < j ∧ j ≤ n := by
  have h1 := fieldOk_true h
  exact ⟨a.toNat, b.toNat, by omega, by omega, by omega, by omega⟩
/-- Do all cards have characters in the field? -/
def haveF (L : List (List Int)) (a b : Int) : Bool := L.all fun x => legalL (part x a b)
/-- The code of a deck and a field. -/
def codeK (L : List (List Int)) (a b : Int) : Int := if deckOk L = true then (if fieldOk a b (deckW L : Int) = true then (if haveF L a b = true then 0 else 8) else 2) else 1
theorem codeK_1 {L : List (List Int)} {a b : Int} (h : deckOk L = false) : codeK L a b = 1 := by unfold codeK; rw [if_neg (by simp [h])]
theorem codeK_2 {L : List (List Int)} {a b : Int} (h : deckOk L = true) (h2 : fieldOk a b (deckW L : Int) = false) : codeK L a b = 2 := by unfold codeK; rw [if_pos h, if_neg (by simp [h2])]
theorem codeK_8 {L : List (List Int)} {a b : Int} (h : deckOk L = true) (h2 : fieldOk a b (deckW L : Int) = true) (h3 : haveF L a b = false) : codeK L a b = 8 := by unfold codeK; rw [if_pos h, if_pos h2, if_neg (by simp [h3])]
theorem codeK_0 {L : List (List Int)} {a b : Int} (h : deckOk L = true) (h2 : fieldOk a b (deckW L : Int) = true) (h3 : haveF L a b = true) : codeK L a b = 0 := by unfold codeK; rw [if_pos h, if_pos h2, if_pos h3]
theorem codeK_zero {L : List (List Int)} {a b : Int} (h : codeK L a b = 0) : deckOk L = true ∧ fieldOk a b (deckW L : Int) = true ∧ haveF L a b = true := by
  unfold codeK at h
  split at h
  · rename_i h1
    split at h
    · rename_i h2
      split at h
      · rename_i h3
        exact ⟨h1, h2, h3⟩
      · omega
    · omega
  · omega
theorem codeK_range (L : List (List Int)) (a b : Int) : codeK L a b = 0 ∨ codeK L a b = 1 ∨ codeK L a b = 2 ∨ codeK L a b = 8 := by
  unfold codeK
  split
  · split
    · split <;> simp
    · simp
  · simp
theorem deckW_at {hs : List Hd} (h : deckOk (cards hs) = true) {k : Nat} (hk : k < hs.length) : deckW (cards hs) = hs[k].xs.length := by
  rw [deckW_pos (by omega), (deckOk_hd h hk).2, ← (deckOk_hd h (show 0 < hs.length by omega)).2]
theorem haveF_at {L : List (List Int)} {a b : Int} (h : haveF L a b = true) {k : Nat} (hk : k < L.length) : legalL (part L[k] a b) = true := List.all_eq_true.1 h _ (List.getElem_mem hk)
/-- The texts of the field of all cards. -/
def keysL (L : List (List Int)) (a b : Int) : List (List UInt8) := L.map fun x => textL (part x a b)
theorem keysL_length (L : List (List Int)) (a b : Int) : (keysL L a b).length = L.length := by simp [keysL]
def bs_ (s : List UInt8) : ByteArray := ⟨s.toArray⟩
def strs (ks : List (List UInt8)) : List Value := ks.map fun s => .string (bs_ s)
theorem strs_length (ks : List (List UInt8)) : (strs ks).length = ks.length := by simp [strs]
theorem strs_get (ks : List (List UInt8)) (k : Nat) (h : k < ks.length) : (strs ks)[k]? = some (.string (bs_ ks[k])) := by simp [strs, h]
theorem strs_snoc (ks : List (List UInt8)) (s : List UInt8) : strs (ks ++ [s]) = strs ks ++ [.string (bs_ s)] := by simp [strs]
theorem strs_one (ks : List (List UInt8)) : ∀ u ∈ strs ks, u.oneCell' = true := by
  intro u hu
  simp only [strs, List.mem_map] at hu
  obtain ⟨a, _, rfl⟩ := hu
  rfl
/-- Comparing two cards of a deck by the field. -/
def cmpC (L : List (List Int)) (a b : Int) (i k : Nat) : Int := cmpR (part (L.getD i []) a b) (part (L.getD k []) a b)
/-- The indices of the cards that are less than the one before them. -/
def stepsL (L : List (List Int)) (a b : Int) (n : Nat) : List Int := ((List.range n).filter fun i => decide (1 ≤ i) && decide (cmpC L a b i (i - 1) < 0)).map fun (i : Nat) => (i : Int)
theorem stepsL_one (L : List (List Int)) (a b : Int) : stepsL L a b 1 = [] := by simp [stepsL]
theorem stepsL_zero (L : List (List Int)) (a b : Int) : stepsL L a b 0 = [] := by simp [stepsL]
theorem stepsL_yes {L : List (List Int)} {a b : Int} {i : Nat} (h1 : 1 ≤ i) (h : cmpC L a b i (i - 1) < 0) : stepsL L a b (i + 1) = stepsL L a b i ++ [(i : Int)] := by
  unfold stepsL
  rw [List.range_succ, List.filter_append]
  simp [h1, h]
theorem stepsL_no {L : List (List Int)} {a b : Int} {i : Nat} (h : ¬ cmpC L a b i (i - 1) < 0) : stepsL L a b (i + 1) = stepsL L a b i := by
  unfold stepsL
  rw [List.range_succ, List.filter_append]
  have : ¬ (cmpC L a b i (i - 1) < 0) := h
  simp
  intro _
  omega
theorem stepsL_len (L : List (List Int)) (a b : Int) (n : Nat) : (stepsL L a b n).length ≤ n := by
  unfold stepsL
  rw [List.length_map]
  have := List.length_filter_le (fun i => decide (1 ≤ i) && decide (cmpC L a b i (i - 1) < 0)) (List.range n)
  simpa using this
/-- The indices at which groups begin. -/
def grpL (L : List (List Int)) (a b : Int) (n : Nat) : List Int := ((List.range n).filter fun i => i == 0 || decide (cmpC L a b (i - 1) i ≠ 0)).map fun (i : Nat) => (i : Int)
theorem grpL_zero (L : List (List Int)) (a b : Int) : grpL L a b 0 = [] := by simp [grpL]
theorem grpL_yes {L : List (List Int)} {a b : Int} {i : Nat} (h : i = 0 ∨ cmpC L a b (i - 1) i ≠ 0) : grpL L a b (i + 1) = grpL L a b i ++ [(i : Int)] := by
  unfold grpL
  rw [List.range_succ, List.filter_append]
  rcases h with h | h <;> simp [h]
theorem grpL_no {L : List (List Int)} {a b : Int} {i : Nat} (h0 : i ≠ 0) (h : cmpC L a b (i - 1) i = 0) : grpL L a b (i + 1) = grpL L a b i := by
  unfold grpL
  rw [List.range_succ, List.filter_append]
  simp [h, h0]
theorem grpL_len (L : List (List Int)) (a b : Int) (n : Nat) : (grpL L a b n).length ≤ n := by
  unfold grpL
  rw [List.length_map]
  have := List.length_filter_le (fun i => i == 0 || decide (cmpC L a b (i - 1) i ≠ 0)) (List.range n)
  simpa using this
theorem grpL_mem {L : List (List Int)} {a b : Int} {n : Nat} {z : Int} (h : z ∈ grpL L a b n) : ∃ i : Nat, z = i ∧ i < n := by
  unfold grpL at h
  obtain ⟨i, hi, rfl⟩ := List.mem_map.1 h
  exact ⟨i, rfl, List.mem_range.1 (List.mem_filter.1 hi).1⟩
/-- Comparing two texts of cards. -/
theorem cmpC_hd {hs : List Hd} {a b : Int} {i k : Nat} (hi : i < hs.length) (hk : k < hs.length) : cmpC (cards hs) a b i k = cmpR (part hs[i].xs a b) (part hs[k].xs a b) := by
  unfold cmpC
  rw [show (cards hs).getD i [] = hs[i].xs by simp [cards, hi], show (cards hs).getD k [] = hs[k].xs by simp [cards, hk]]
/-- The first of the indices; -1 if there is none. -/
def stepF (L : List (List Int)) (a b : Int) (n : Nat) : Int := (stepsL L a b n).headD (-1)
theorem stepsL_more (L : List (List Int)) (a b : Int) (m : Nat) : ∀ d, ∃ t, stepsL L a b (m + d) = stepsL L a b m ++ t
  | 0 => ⟨[], by simp⟩
  | d + 1 => by
    obtain ⟨t, ht⟩ := stepsL_more L a b m d
    by_cases h : 1 ≤ m + d ∧ cmpC L a b (m + d) (m + d - 1) < 0
    · exact ⟨t ++ [((m + d : Nat) : Int)], by rw [← Nat.add_assoc, stepsL_yes h.1 h.2, ht, List.append_assoc]⟩
    · refine ⟨t, ?_⟩
      rw [← Nat.add_assoc, ← ht]
      unfold stepsL
      rw [List.range_succ, List.filter_append]
      have : (decide (1 ≤ m + d) && decide (cmpC L a b (m + d) (m + d - 1) < 0)) = false := by
        rw [Bool.and_eq_false_iff, decide_eq_false_iff_not, decide_eq_false_iff_not]
        by_cases h1 : 1 ≤ m + d
        · exact .inr fun h2 => h ⟨h1, h2⟩
        · exact .inl h1
      simp [this]
theorem stepF_hit {L : List (List Int)} {a b : Int} {k n : Nat} (h : stepsL L a b k = []) (h1 : 1 ≤ k) (hk : k < n) (hc : cmpC L a b k (k - 1) < 0) : stepF L a b n = k := by
  obtain ⟨t, ht⟩ := stepsL_more L a b (k + 1) (n - (k + 1))
  rw [show k + 1 + (n - (k + 1)) = n by omega, stepsL_yes h1 hc, h] at ht
  unfold stepF
  rw [ht]
  rfl
theorem stepF_none {L : List (List Int)} {a b : Int} {n : Nat} (h : stepsL L a b n = []) : stepF L a b n = -1 := by unfold stepF; rw [h]; rfl
theorem stepF_lt {L : List (List Int)} {a b : Int} {n : Nat} : (stepF L a b n < 0) ↔ (stepsL L a b n).length = 0 := by
  unfold stepF
  cases h : stepsL L a b n with
  | nil => simp
  | cons z t =>
    have hz : z ∈ stepsL L a b n := by rw [h]; exact List.mem_cons_self ..
    unfold stepsL at hz
    obtain ⟨i, -, rfl⟩ := List.mem_map.1 hz
    simp
def keysRes (L : List (List Int)) (a b : Int) : List (List UInt8) := if codeK L a b = 0 then keysL L a b else []
theorem keysRes_0 {L : List (List Int)} {a b : Int} (h : codeK L a b = 0) : keysRes L a b = keysL L a b := by unfold keysRes; rw [if_pos h]
theorem keysRes_1 {L : List (List Int)} {a b : Int} (h : codeK L a b ≠ 0) : keysRes L a b = [] := by unfold keysRes; rw [if_neg h]
theorem keysL_snoc (L : List (List Int)) (a b : Int) (k : Nat) (h : k < L.length) : keysL (L.take (k + 1)) a b = keysL (L.take k) a b ++ [textL (part L[k] a b)] := by
  unfold keysL
  rw [List.take_succ_eq_append_getElem h, List.map_append]
  rfl
theorem keysL_at (L : List (List Int)) (a b : Int) (k : Nat) (h : k < L.length) : (keysL L a b)[k]'(by rw [keysL_length]; exact h) = textL (part L[k] a b) := by simp [keysL]
theorem cmpC_at {L : List (List Int)} {a b : Int} {i k : Nat} (hi : i < L.length) (hk : k < L.length) : cmpC L a b i k = cmpR (part L[i] a b) (part L[k] a b) := by
  unfold cmpC
  rw [show L.getD i [] = L[i] by simp [List.getD, hi], show L.getD k [] = L[k] by simp [List.getD, hk]]
theorem keysL_cmp {L : List (List Int)} {a b : Int} (h : haveF L a b = true) {i k : Nat} (hi : i < L.length) (hk : k < L.length) : cmpT (textL (part L[i] a b)) (textL (part L[k] a b)) = cmpC L a b i k := by
  rw [cmpT_text (haveF_at h hi) (haveF_at h hk), cmpC_at hi hk]
theorem textL_length (xs : List Int) : (textL xs).length = xs.length := by simp [textL]
end Go.Proofs.YtkmejkeanmjfbaaGreatDoor

/-! ### Ranks of columns and of characters, comparing; in the program and in the reference. -/
namespace Go.Proofs.YtkmejkeanmjfbaaGreatDoor
open Go.RowKit

theorem ret_cb {a b : Int} {p q : Bool} (h : a = b) (k : p = q) : Ending.returned (.tuple #[.int .u8 a, .bool p]) = .returned (.tuple #[.int .u8 b, .bool q]) := by rw [h, k]
theorem rankC_hit {c : UInt8} {k : Nat} (hk : k < 40) (h : (charL.take k).any (fun x : UInt8 => x == c) = false) (hp : charL[k]'hk = c) : rankC c = k :=
  idxP_some (p := fun x : UInt8 => x == c) hk h (by simpa using hp)
theorem u8_ne {a b : UInt8} (h : ¬ a = b) : ¬ ((a.toNat : Int) = (b.toNat : Int)) := fun e => h (UInt8.toNat_inj.1 (by omega))
/-- The bytes of a text. -/
def byt (s : ByteArray) : List UInt8 := s.data.toList
theorem byt_bs (s : List UInt8) : byt (bs_ s) = s := rfl
theorem byt_size (s : ByteArray) : (byt s).length = s.size := by simp [byt]
theorem byt_at (s : ByteArray) (k : Nat) (h : k < s.size) : (byt s)[k]'(by rw [byt_size]; exact h) = s[k] := rfl
theorem take_eq_succ {l m : List Int} {k : Nat} (h : l.take k = m.take k) (h1 : k < l.length) (h2 : k < m.length) (e : l[k] = m[k]) : l.take (k + 1) = m.take (k + 1) := by
  rw [List.take_succ_eq_append_getElem h1, List.take_succ_eq_append_getElem h2, h, e]
theorem part_nat (xs : List Int) (i j : Nat) : part xs (i : Int) (j : Int) = (xs.drop i).take (j - i) := rfl
theorem part_len {xs : List Int} {i j : Nat} (hij : i < j) (hj : j ≤ xs.length) : (part xs (i : Int) (j : Int)).length = j - i := by
  rw [part_nat, List.length_take, List.length_drop]
  omega
theorem rd_part {w : World} {B b off : Nat} {xs : List Int} (h : Rd w B 1 (some ⟨b, off, none⟩) xs.length (ints xs)) {i j : Nat} (hij : i < j) (hj : j ≤ xs.length) : Rd w B 1 (some ⟨b, off + i, none⟩) (j - i) (ints (part xs (i : Int) (j : Int))) := by
  obtain ⟨b', off', he, hb, hc⟩ := h.2 (by omega)
  injection he with he
  injection he with he1 he2
  subst he1
  subst he2
  refine ⟨by rw [ints_length, part_len hij hj, Nat.mul_one], fun _ => ⟨b, off + i, rfl, hb, fun k u hu => ?_⟩⟩
  rw [Nat.add_assoc]
  refine hc (i + k) u ?_
  have hk : k < j - i := by
    have := (List.getElem?_eq_some_iff.1 hu).1
    rwa [ints_length, part_len hij hj] at this
  rw [part_nat] at hu
  simp only [ints, List.getElem?_map, List.getElem?_take, List.getElem?_drop, hk, if_true] at hu ⊢
  exact hu
end Go.Proofs.YtkmejkeanmjfbaaGreatDoor
