/- PunchByProgram, VerifyCard, KeysNeeded, StrokesSaved, ValidProgram; in the program and in the reference. The keys for a card: the plain laws. The key punch's small functions: CharOf, KeysNeeded, StrokesSaved, ValidProgram. -/
import Derived.Test.YtkmejkeanmjfbaaGreatDoorKd28
/-! ### KeysFn -/
/-! ### PunchByProgram, VerifyCard, KeysNeeded, StrokesSaved, ValidProgram; in the program and in the reference. -/
namespace Go.Proofs.YtkmejkeanmjfbaaGreatDoor
open Go.RowKit

def ppC (s : ByteArray) (L : List (List Int)) (t : ByteArray) : Int := if pgC s true L = 0 then chkC s t else pgC s true L
def ppR (s : ByteArray) (xs : List Int) (t : ByteArray) : List Int := if ppC s [xs] t = 0 then pchL s xs t else []
def vcV (s : ByteArray) (xs ys : List Int) (t : ByteArray) : Int := if ppC s [xs, ys] t = 0 then wrgI (pchL s xs t) ys s.size else 0
theorem pg_one (s : ByteArray) (xs : List Int) : pgC s true [xs] = l5C s xs := by
  unfold pgC l5C widB
  simp
theorem pg_ok1 {s : ByteArray} {xs : List Int} (h : pgC s true [xs] = 0) : progB s = true ∧ cardOk xs = true ∧ xs.length = s.size := l5C_0 (by rw [← pg_one]; exact h)
theorem pg_ok2 {s : ByteArray} {xs ys : List Int} (h : pgC s true [xs, ys] = 0) : progB s = true ∧ cardOk xs = true ∧ xs.length = s.size ∧ cardOk ys = true ∧ ys.length = s.size := by
  unfold pgC at h
  split at h
  · rename_i h1
    split at h
    · rename_i h2
      simp [widB] at h1 h2
      exact ⟨h1.1, h1.2.1, h2.1, h1.2.2, h2.2⟩
    · omega
  · omega
theorem ppC_0 {s : ByteArray} {L : List (List Int)} {t : ByteArray} (h : pgC s true L = 0) : ppC s L t = chkC s t := by unfold ppC; rw [if_pos h]
theorem ppC_1 {s : ByteArray} {L : List (List Int)} {t : ByteArray} (h : ¬ pgC s true L = 0) : ppC s L t = pgC s true L := by unfold ppC; rw [if_neg h]
theorem ppR_0 {s : ByteArray} {xs : List Int} {t : ByteArray} (h : pgC s true [xs] = 0) : ppR s xs t = pchR s xs t := by unfold ppR pchR; rw [ppC_0 h]
theorem ppR_1 {s : ByteArray} {xs : List Int} {t : ByteArray} (h : ¬ ppC s [xs] t = 0) : ppR s xs t = [] := by unfold ppR; rw [if_neg h]
theorem pchR_length {s : ByteArray} {xs : List Int} {t : ByteArray} (hp : s.size ≤ 20) : (pchR s xs t).length ≤ 20 := by
  unfold pchR
  split
  · rw [pchL_length]; exact hp
  · simp
theorem ppR_length (s : ByteArray) (xs : List Int) (t : ByteArray) : (ppR s xs t).length ≤ 20 := by
  by_cases h : pgC s true [xs] = 0
  · rw [ppR_0 h]
    exact pchR_length (progB_len (pg_ok1 h).1).2
  · rw [ppR_1 (by rw [ppC_1 h]; exact h)]
    simp
theorem rdd1 {w : World} {A : Option Addr} {c : Nat} {xs : List Int} (ra : Rd w w.heap.size 1 A xs.length (ints xs)) (hc : xs.length ≤ c) :
    RdD (w.alloc (.cells #[.slice A xs.length c] 26)) (w.alloc (.cells #[.slice A xs.length c] 26)).heap.size (some ⟨w.heap.size, 0, none⟩) [⟨A, c, xs⟩] :=
  rdd_cons (W := w) (D := none) (hs := []) (base := w.heap.size) (own_lit w #[.slice A xs.length c] 1 rfl (Nat.le_refl _) (by omega) rfl) (ba (b0 w) _) ra hc (RdD.nil _ _ _)
theorem rdd2 {w : World} {A C : Option Addr} {c d : Nat} {xs ys : List Int} (ra : Rd w w.heap.size 1 A xs.length (ints xs)) (hc : xs.length ≤ c) (rb : Rd w w.heap.size 1 C ys.length (ints ys)) (hd : ys.length ≤ d) :
    RdD (w.alloc (.cells #[.slice A xs.length c, .slice C ys.length d] 26)) (w.alloc (.cells #[.slice A xs.length c, .slice C ys.length d] 26)).heap.size (some ⟨w.heap.size, 0, none⟩) [⟨A, c, xs⟩, ⟨C, d, ys⟩] := by
  have T := ba (b0 w) (.cells #[.slice A xs.length c, .slice C ys.length d] 26)
  refine ⟨Rd.own (own_lit w #[.slice A xs.length c, .slice C ys.length d] 2 rfl (Nat.le_refl _) (by omega) rfl), fun x hx => ?_, fun x hx => ?_⟩
  · simp only [List.mem_cons, List.not_mem_nil, or_false] at hx
    rcases hx with rfl | rfl
    · exact ra.up T
    · exact rb.up T
  · simp only [List.mem_cons, List.not_mem_nil, or_false] at hx
    rcases hx with rfl | rfl
    · exact hc
    · exact hd

/-! ### VerifyCard -/
end Go.Proofs.YtkmejkeanmjfbaaGreatDoor

/-! ### The keys for a card: the plain laws. -/
namespace Go.Proofs.YtkmejkeanmjfbaaGreatDoor
open Go.RowKit

/-! ### characters and their codes -/
theorem ch_back : ∀ n : Fin 256, chB (UInt8.ofNat n.val) = true → legalM (codeV n.val) = true ∧ charM (codeV n.val) = UInt8.ofNat n.val ∧ holeB (codeV n.val) = true := by decide +kernel
theorem chB_back {c : UInt8} (h : chB c = true) : legalM (codeV c.toNat) = true ∧ charM (codeV c.toNat) = c ∧ holeB (codeV c.toNat) = true := by
  have := ch_back ⟨c.toNat, c.toNat_lt⟩
  simp only [UInt8.ofNat_toNat] at this
  exact this h
theorem char_back {m : Int} (h : legalM m = true) : codeV (charM m).toNat = m ∧ chB (charM m) = true := by
  have h0 : 0 ≤ rankM m := by simpa [legalM] using h
  unfold rankM idxP at h0
  split at h0
  · rename_i ha
    obtain ⟨x, hx, hpx⟩ := List.any_eq_true.1 ha
    have hlt := List.findIdx_lt_length_of_exists (p := fun c : UInt8 => codeV c.toNat == m) ⟨x, hx, hpx⟩
    have hp := List.findIdx_getElem (w := hlt)
    have hr : rankM m = (charL.findIdx (fun c : UInt8 => codeV c.toNat == m) : Nat) := by unfold rankM idxP; rw [if_pos ha]
    have h40 : charL.findIdx (fun c : UInt8 => codeV c.toNat == m) < 40 := hlt
    have hc := charM_of h40 hr
    rw [hc]
    refine ⟨beq_iff_eq.1 hp, ?_⟩
    have : ∀ k : Fin 40, chB (charL[k.val]'k.isLt) = true := by decide +kernel
    exact this ⟨_, h40⟩
  · omega
/-- The character of a column; 0 where it has none. -/
def keyCh (m : Int) : UInt8 := if legalM m = true then charM m else 0
theorem keyCh_code {c : UInt8} (h : chB c = true) : keyCh (codeV c.toNat) = c := by
  obtain ⟨h1, h2, _⟩ := chB_back h
  unfold keyCh
  rw [if_pos h1, h2]
theorem keyCh_ch {m : Int} : chB (keyCh m) = true ↔ legalM m = true := by
  unfold keyCh
  by_cases h : legalM m = true
  · rw [if_pos h]
    exact ⟨fun _ => h, fun _ => (char_back h).2⟩
  · rw [if_neg h]
    exact ⟨fun k => absurd k (by decide), fun k => absurd k h⟩
theorem keyCh_back {m : Int} (h : legalM m = true) : codeV (keyCh m).toNat = m := by
  unfold keyCh
  rw [if_pos h]
  exact (char_back h).1

/-! ### the keys of a card -/
def kfTo (s : ByteArray) (ys : List Int) : Nat → List UInt8
  | 0 => []
  | k + 1 => kfTo s ys k ++ (if keyN ((byC s k).toNat : Int) = true then [keyCh (ys.getD k 0)] else [])
def kfT (s : ByteArray) (ys : List Int) : ByteArray := bs_ (kfTo s ys s.size)
theorem kfTo_yes {s : ByteArray} {ys : List Int} {k : Nat} (hk : k < s.size) (h : keyN (s[k].toNat : Int) = true) : kfTo s ys (k + 1) = kfTo s ys k ++ [keyCh (ys.getD k 0)] := by
  rw [kfTo, byC_at hk, if_pos h]
theorem kfTo_no {s : ByteArray} {ys : List Int} {k : Nat} (hk : k < s.size) (h : keyN (s[k].toNat : Int) = false) : kfTo s ys (k + 1) = kfTo s ys k := by
  rw [kfTo, byC_at hk, if_neg (by simp [h]), List.append_nil]
theorem kfTo_length (s : ByteArray) (ys : List Int) : ∀ k, k ≤ s.size → (kfTo s ys k).length = keysTo s k
  | 0, _ => by simp [kfTo, keysTo]
  | k + 1, hk => by
    have ih := kfTo_length s ys k (by omega)
    cases hkn : keyN (s[k].toNat : Int) with
    | true => rw [kfTo_yes (by omega) hkn, List.length_append, ih, keysTo_yes (by omega) hkn]; rfl
    | false => rw [kfTo_no (by omega) hkn, ih, keysTo_no (by omega) hkn]
theorem kfTo_pre (s : ByteArray) (ys : List Int) (i : Nat) : ∀ n, i ≤ n → n ≤ s.size → ∃ r, kfTo s ys n = kfTo s ys i ++ r
  | 0, h, _ => ⟨[], by obtain rfl : i = 0 := by omega
                       simp⟩
  | n + 1, h, hn => by
    by_cases e : i = n + 1
    · subst e
      exact ⟨[], by simp⟩
    · obtain ⟨r, hr⟩ := kfTo_pre s ys i n (by omega) (by omega)
      rw [kfTo, hr, List.append_assoc]
      exact ⟨_, rfl⟩
theorem kfT_size (s : ByteArray) (ys : List Int) : (kfT s ys).size = keysN s := by
  unfold kfT
  rw [bs_size, kfTo_length s ys s.size (Nat.le_refl _), keysTo_all]
theorem kfT_at {s : ByteArray} (ys : List Int) {k : Nat} (hk : k < s.size) (h : keyN (s[k].toNat : Int) = true) : byC (kfT s ys) (keysTo s k) = keyCh (ys.getD k 0) := by
  obtain ⟨r, hr⟩ := kfTo_pre s ys (k + 1) s.size (by omega) (Nat.le_refl _)
  unfold byC kfT
  rw [byt_bs, hr, kfTo_yes hk h, List.append_assoc, ← kfTo_length s ys k (by omega)]
  simp [List.getD]
/-- A column is as it would be punched. -/
def okAt (s : ByteArray) (xs ys : List Int) (k : Nat) : Prop := chkAt s (kfT s ys) k = 0 ∧ pchAt s xs (kfT s ys) k = ys.getD k 0
theorem ok_key {s : ByteArray} {xs ys : List Int} {k : Nat} (hk : k < s.size) (h : keyN (s[k].toNat : Int) = true) : okAt s xs ys k ↔ legalM (ys.getD k 0) = true ∧ ((s[k].toNat : Int) = 110 → digB ((keyCh (ys.getD k 0)).toNat : Int) = true) := by
  unfold okAt chkAt pchAt
  rw [byC_at hk, if_pos h, if_pos h, kfT_at ys hk h]
  by_cases hl : legalM (ys.getD k 0) = true
  · rw [if_pos (keyCh_ch.2 hl), keyCh_back hl]
    by_cases hd : (s[k].toNat : Int) = 110 ∧ digB ((keyCh (ys.getD k 0)).toNat : Int) = false
    · rw [if_pos hd]
      constructor
      · rintro ⟨h1, _⟩
        omega
      · rintro ⟨_, h2⟩
        rw [h2 hd.1] at hd
        simp at hd
    · rw [if_neg hd]
      refine ⟨fun _ => ⟨hl, fun h1 => ?_⟩, fun _ => ⟨rfl, rfl⟩⟩
      cases hb : digB ((keyCh (ys.getD k 0)).toNat : Int) with
      | true => rfl
      | false => exact absurd ⟨h1, hb⟩ hd
  · rw [if_neg (fun e => hl (keyCh_ch.1 e))]
    constructor
    · rintro ⟨h1, _⟩
      omega
    · rintro ⟨h1, _⟩
      exact absurd h1 hl
theorem ok_skip {s : ByteArray} {xs ys : List Int} {k : Nat} (hk : k < s.size) (h : (s[k].toNat : Int) = 115) : okAt s xs ys k ↔ ys.getD k 0 = 0 := by
  obtain ⟨_, h2, h3⟩ := at_skip (t := kfT s ys) (xs := xs) hk h
  unfold okAt
  rw [h2, h3]
  exact ⟨fun e => e.2.symm, fun e => ⟨rfl, e.symm⟩⟩
theorem ok_dup {s : ByteArray} {xs ys : List Int} {k : Nat} (hk : k < s.size) (hx : xs.length = s.size) (h : (s[k].toNat : Int) = 100) : okAt s xs ys k ↔ ys.getD k 0 = xs.getD k 0 := by
  obtain ⟨_, h2, h3⟩ := at_dup (t := kfT s ys) (xs := xs) hk hx h
  unfold okAt
  rw [h2, h3, getD_of (show k < xs.length by omega)]
  exact ⟨fun e => e.2.symm, fun e => ⟨rfl, e.symm⟩⟩
def Ok (s : ByteArray) (xs ys : List Int) (k : Nat) : Prop := ∀ j, j < k → okAt s xs ys j
theorem Ok.zero (s : ByteArray) (xs ys : List Int) : Ok s xs ys 0 := fun j h => absurd h (Nat.not_lt_zero j)
theorem Ok.succ {s : ByteArray} {xs ys : List Int} {k : Nat} (h : Ok s xs ys k) (hk : okAt s xs ys k) : Ok s xs ys (k + 1) := by
  intro j hj
  rcases Nat.lt_succ_iff_lt_or_eq.1 hj with hj | rfl
  · exact h j hj
  · exact hk
/-- The code of the keys for a card whose program and columns fit. -/
def kfQ (s : ByteArray) (xs ys : List Int) : Int := if chkC s (kfT s ys) = 0 ∧ pchL s xs (kfT s ys) = ys then 0 else 3
theorem kfQ_all {s : ByteArray} {xs ys : List Int} (hy : ys.length = s.size) : kfQ s xs ys = 0 ↔ Ok s xs ys s.size := by
  unfold kfQ
  constructor
  · intro h
    split at h
    · rename_i h1
      intro j hj
      refine ⟨(chk_zero h1.1).2 j hj, ?_⟩
      have hjl : j < (pchL s xs (kfT s ys)).length := by rw [pchL_length]; exact hj
      rw [← pchL_at hjl]
      have hjy : j < ys.length := by omega
      rw [getD_of hjy]
      congr 1
      exact h1.2
    · omega
  · intro h
    rw [if_pos]
    refine ⟨chk_none (kfT_size s ys) (fun j hj => (h j hj).1), ?_⟩
    apply List.ext_getElem
    · rw [pchL_length, hy]
    · intro j h1 h2
      rw [pchL_at h1, (h j (by rw [pchL_length] at h1; exact h1)).2, getD_of h2]
theorem kfQ_bad {s : ByteArray} {xs ys : List Int} (hy : ys.length = s.size) {k : Nat} (hk : k < s.size) (h : ¬ okAt s xs ys k) : kfQ s xs ys = 3 := by
  by_cases e : kfQ s xs ys = 0
  · exact absurd ((kfQ_all hy).1 e k hk) h
  · unfold kfQ at e ⊢
    split at e
    · omega
    · rename_i h1
      rw [if_neg h1]
def kfC (s : ByteArray) (xs ys : List Int) : Int := if pgC s true [xs, ys] = 0 then kfQ s xs ys else pgC s true [xs, ys]
def kfS (s : ByteArray) (xs ys : List Int) : ByteArray := if kfC s xs ys = 0 then kfT s ys else ⟨#[]⟩

/-! ### what the law says -/
/-- The keys for a card give it again. -/
theorem keys_again {s : ByteArray} {xs ys : List Int} (h : kfC s xs ys = 0) : ppC s [xs] (kfS s xs ys) = 0 ∧ ppR s xs (kfS s xs ys) = ys := by
  unfold kfC at h
  split at h
  · rename_i h0
    obtain ⟨o1, o2, o3, o4, o5⟩ := pg_ok2 h0
    have hs : kfS s xs ys = kfT s ys := by unfold kfS kfC; rw [if_pos h0, if_pos h]
    have h1 : pgC s true [xs] = 0 := by
      unfold pgC widB
      simp [o1, o2, o3]
    unfold kfQ at h
    split at h
    · rename_i h2
      rw [hs]
      have hc : ppC s [xs] (kfT s ys) = 0 := by rw [ppC_0 h1, h2.1]
      refine ⟨hc, ?_⟩
      unfold ppR
      rw [if_pos hc, h2.2]
    · omega
  · rename_i h0
    exact absurd h h0
theorem pch_ok {s : ByteArray} {xs : List Int} {t : ByteArray} (hp : progB s = true) (hk : cardOk xs = true) (hx : xs.length = s.size) (hc : chkC s t = 0) : cardOk (pchL s xs t) = true := by
  have hl := progB_len hp
  obtain ⟨hz, hno⟩ := chk_zero hc
  simp only [cardOk, Bool.and_eq_true, pchL_length]
  refine ⟨by simp [insideB]; omega, List.all_eq_true.2 fun v hv => ?_⟩
  obtain ⟨k, hk2, rfl⟩ := List.mem_iff_getElem.1 hv
  rw [pchL_at hk2]
  rw [pchL_length] at hk2
  rcases letters hp hk2 with h4 | h4 | h4 | h4
  · have hkn : keyN (s[k].toNat : Int) = true := by rw [h4]; rfl
    have hq : keysTo s k < t.size := by rw [hz]; exact keysTo_lt hk2 hkn
    obtain ⟨_, h2, h3⟩ := at_key (xs := xs) rfl hk2 (.inl h4) hq
    rw [h3]
    have := hno k hk2
    rw [h2] at this
    split at this
    · rename_i hch
      exact (chB_back hch).2.2
    · omega
  · have hkn : keyN (s[k].toNat : Int) = true := by rw [h4]; rfl
    have hq : keysTo s k < t.size := by rw [hz]; exact keysTo_lt hk2 hkn
    obtain ⟨_, h2, h3⟩ := at_key (xs := xs) rfl hk2 (.inr h4) hq
    rw [h3]
    have := hno k hk2
    rw [h2] at this
    split at this
    · rename_i hch
      exact (chB_back hch).2.2
    · omega
  · rw [(at_skip (t := t) (xs := xs) hk2 h4).2.2]
    rfl
  · rw [(at_dup (t := t) (xs := xs) hk2 hx h4).2.2]
    simp only [cardOk, Bool.and_eq_true] at hk
    exact List.all_eq_true.1 hk.2 _ (List.getElem_mem _)
theorem kf_self {s : ByteArray} {xs : List Int} {t : ByteArray} (hc : chkC s t = 0) : ∀ k, k ≤ s.size → kfTo s (pchL s xs t) k = (byt t).take (keysTo s k)
  | 0, _ => by simp [kfTo, keysTo]
  | k + 1, hk => by
    have ih := kf_self (xs := xs) hc k (by omega)
    have hks : k < s.size := by omega
    obtain ⟨hz, hno⟩ := chk_zero hc
    cases hkn : keyN (s[k].toNat : Int) with
    | false => rw [kfTo_no hks hkn, keysTo_no hks hkn, ih]
    | true =>
      have hq : keysTo s k < t.size := by rw [hz]; exact keysTo_lt hks hkn
      have hqb : keysTo s k < (byt t).length := by rw [byt_size]; exact hq
      have hh : (s[k].toNat : Int) = 109 ∨ (s[k].toNat : Int) = 110 := by simpa [keyN] using hkn
      obtain ⟨_, h2, h3⟩ := at_key (xs := xs) rfl hks hh hq
      have h5 : (pchL s xs t).getD k 0 = codeV t[keysTo s k].toNat := by
        rw [getD_of (by rw [pchL_length]; exact hks), pchL_at, h3]
        rfl
      have hch : chB t[keysTo s k] = true := by
        have := hno k hks
        rw [h2] at this
        split at this
        · assumption
        · omega
      rw [kfTo_yes hks hkn, ih, keysTo_yes hks hkn, h5, keyCh_code hch, List.take_succ_eq_append_getElem hqb, byt_at t _ hq]
      rfl
/-- A card that is punched has no wrong column, and its keys are those that were struck. -/
theorem punched_right {s : ByteArray} {xs : List Int} {t : ByteArray} (h : ppC s [xs] t = 0) : ppC s [xs, ppR s xs t] t = 0 ∧ vcV s xs (ppR s xs t) t = -1 ∧ kfC s xs (ppR s xs t) = 0 ∧ kfS s xs (ppR s xs t) = t ∧ t.size = keysN s ∧ progB s = true := by
  have h1 : pgC s true [xs] = 0 := by
    by_cases e : pgC s true [xs] = 0
    · exact e
    · rw [ppC_1 e] at h; exact absurd h e
  have hc : chkC s t = 0 := by rw [ppC_0 h1] at h; exact h
  obtain ⟨o1, o2, o3⟩ := pg_ok1 h1
  have hr : ppR s xs t = pchL s xs t := by unfold ppR; rw [if_pos h]
  have hk := pch_ok o1 o2 o3 hc
  have h2 : pgC s true [xs, pchL s xs t] = 0 := by
    unfold pgC widB
    simp [o1, o2, o3, hk, pchL_length]
  have hself : kfT s (pchL s xs t) = t := by
    have := kf_self (xs := xs) hc s.size (Nat.le_refl _)
    rw [keysTo_all, ← (chk_zero hc).1, List.take_of_length_le (by rw [byt_size]; omega)] at this
    unfold kfT
    rw [this]
    exact ByteArray.ext (by simp [bs_, byt])
  have hq : kfQ s xs (pchL s xs t) = 0 := by
    unfold kfQ
    rw [hself, if_pos ⟨hc, rfl⟩]
  have hkf : kfC s xs (pchL s xs t) = 0 := by unfold kfC; rw [if_pos h2, hq]
  have hp2 : ppC s [xs, pchL s xs t] t = 0 := by rw [ppC_0 h2, hc]
  rw [hr]
  refine ⟨hp2, ?_, hkf, ?_, (chk_zero hc).1, o1⟩
  · unfold vcV
    rw [if_pos hp2]
    exact wrg_none fun j hj => rfl
  · unfold kfS
    rw [if_pos hkf, hself]
end Go.Proofs.YtkmejkeanmjfbaaGreatDoor

/-! ### The key punch's small functions: CharOf, KeysNeeded, StrokesSaved, ValidProgram. -/
namespace Go.Proofs.YtkmejkeanmjfbaaGreatDoor
open Go.RowKit

def knC (s : ByteArray) : Int := if progB s = true then 0 else 1
def knV (s : ByteArray) : Int := if progB s = true then (keysN s : Int) else 0
def ssC (s : ByteArray) (n : Int) : Int := if progB s = true then (if insideB n 0 1000000 = true then 0 else 2) else 1
def ssV (s : ByteArray) (n : Int) : Int := if ssC s n = 0 then n * ((s.size : Int) - (keysN s : Int)) else 0
theorem ssC_1 {s : ByteArray} {n : Int} (h : progB s = false) : ssC s n = 1 := by unfold ssC; rw [if_neg (by simp [h])]
theorem ssC_2 {s : ByteArray} {n : Int} (h : progB s = true) (h2 : insideB n 0 1000000 = false) : ssC s n = 2 := by unfold ssC; rw [if_pos h, if_neg (by simp [h2])]
theorem ssC_0 {s : ByteArray} {n : Int} (h : progB s = true) (h2 : insideB n 0 1000000 = true) : ssC s n = 0 := by unfold ssC; rw [if_pos h, if_pos h2]
theorem ss_zero {s : ByteArray} {n : Int} (h : ssC s n = 0) : progB s = true ∧ insideB n 0 1000000 = true := by
  unfold ssC at h
  split at h
  · rename_i h1
    split at h
    · rename_i h2
      exact ⟨h1, h2⟩
    · omega
  · omega
theorem ss_val {s : ByteArray} {n : Int} (hp : progB s = true) (hi : insideB n 0 1000000 = true) : wrap64 (n * wrap64 ((s.size : Int) - (keysN s : Int))) = n * ((s.size : Int) - (keysN s : Int)) := by
  have h1 := progB_len hp
  have h2 := insideB_true hi
  have h3 := keysN_le s
  obtain ⟨q, hq⟩ : ∃ q : Nat, (s.size : Int) - (keysN s : Int) = q := ⟨s.size - keysN s, by omega⟩
  rw [hq]
  have e1 : wrap64 (q : Int) = q := by unfold wrap64; omega
  rw [e1]
  obtain ⟨k, hk⟩ : ∃ k : Nat, n = k := ⟨n.toNat, by omega⟩
  subst hk
  have h4 : k * q ≤ 1000000 * 20 := Nat.mul_le_mul (by omega) (by omega)
  have h5 : ((k : Int) * (q : Int)) = ((k * q : Nat) : Int) := by simp
  rw [h5]
  unfold wrap64
  omega

end Go.Proofs.YtkmejkeanmjfbaaGreatDoor
