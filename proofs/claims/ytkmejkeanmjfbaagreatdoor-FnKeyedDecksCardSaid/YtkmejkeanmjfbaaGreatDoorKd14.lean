/- Texts for a field: punching, comparing, the codes; in the program and in the reference. Comparing fields with texts, the codes of texts; in the program and in the reference. The texts of a deck and the code of texts, in the reference. SelectBetween, SelectEqual; in the program and in the reference. SelectBetween, SelectEqual; in the reference; SelectEqual in the program. -/
import Derived.Test.YtkmejkeanmjfbaaGreatDoorKd10
import Derived.RegionTactic
import Derived.Deep.RegionHeld3
import Derived.Test.YtkmejkeanmjfbaaGreatDoorKd11
import Derived.Test.YtkmejkeanmjfbaaGreatDoorKd13
/-! ### SelectAll -/
/-! ### Texts for a field: punching, comparing, the codes; in the program and in the reference. -/
namespace Go.Proofs.YtkmejkeanmjfbaaGreatDoor
open Go.RowKit

/-- The columns of a text. -/
def punL (s : ByteArray) : List Int := (byt s).map fun c => codeV c.toNat
theorem punL_length (s : ByteArray) : (punL s).length = s.size := by unfold punL; rw [List.length_map, byt_size]
theorem rankM_code : ∀ c : UInt8, chB c = true → rankM (codeV c.toNat) = rankC c := by
  intro c
  have h : ∀ n : Fin 256, chB (UInt8.ofNat n.val) = true → rankM (codeV (UInt8.ofNat n.val).toNat) = rankC (UInt8.ofNat n.val) := by decide +kernel
  have := h ⟨c.toNat, UInt8.toNat_lt c⟩
  simpa using this
theorem rankC_inj : ∀ a b : UInt8, chB a = true → chB b = true → rankC a = rankC b → a = b := by
  have h : ∀ a : UInt8, chB a = true → charL.getD (rankC a).toNat 0 = a := by
    intro c
    have h : ∀ n : Fin 256, chB (UInt8.ofNat n.val) = true → charL.getD (rankC (UInt8.ofNat n.val)).toNat 0 = UInt8.ofNat n.val := by decide +kernel
    have := h ⟨c.toNat, UInt8.toNat_lt c⟩
    simpa using this
  intro a b ha hb e
  rw [← h a ha, ← h b hb, e]
theorem punL_ranks {s : ByteArray} (h : chaB s = true) : (punL s).map rankM = (byt s).map rankC := by
  unfold punL
  rw [List.map_map]
  apply List.map_congr_left
  intro c hc
  exact rankM_code c (List.all_eq_true.1 h c hc)
theorem cmp_text {xs : List Int} {s : ByteArray} (hx : legalL xs = true) (hs : chaB s = true) : cmpR xs (punL s) = cmpT (textL xs) (byt s) := by
  unfold cmpR cmpT
  rw [punL_ranks hs, textL_ranks hx]
theorem textL_ch {xs : List Int} (h : legalL xs = true) : (textL xs).all chB = true := by
  rw [List.all_eq_true]
  intro c hc
  obtain ⟨m, hm, rfl⟩ := List.mem_map.1 hc
  have h0 : 0 ≤ rankM m := by simpa [legalM] using List.all_eq_true.1 h m hm
  have h1 := (rankM_range m).2
  obtain ⟨k, hk⟩ : ∃ k : Nat, rankM m = k := ⟨(rankM m).toNat, by omega⟩
  have hk40 : k < 40 := by omega
  rw [charM_of hk40 hk]
  have := (char_code k hk40).1
  unfold chB
  exact decide_eq_true this
theorem cmpT_eq {s t : List UInt8} (hs : s.all chB = true) (ht : t.all chB = true) (hl : s.length = t.length) : (cmpT s t = 0) ↔ s = t := by
  unfold cmpT
  rw [cmpN_zero (by simpa using hl)]
  constructor
  · intro h
    apply List.ext_getElem hl
    intro i h1 h2
    have h3 := congrArg (fun l => l[i]?) h
    simp only [List.getElem?_map, List.getElem?_eq_getElem h1, List.getElem?_eq_getElem h2, Option.map_some, Option.some.injEq] at h3
    exact rankC_inj _ _ (List.all_eq_true.1 hs _ (List.getElem_mem h1)) (List.all_eq_true.1 ht _ (List.getElem_mem h2)) h3
  · intro h
    rw [h]

theorem codeO_ch {c : UInt8} (h : chB c = true) : codeO c.toNat = codeV c.toNat := by
  have : 0 ≤ codeV c.toNat := by simpa [chB] using h
  unfold codeO
  rw [if_pos this]
theorem codeOf_z (c : UInt8) (z : Int) (w : World) (hz : z = codeV c.toNat) (h : chB c = true) :
    Calls Tryz.prog 47 #[.int .u8 (c.toNat : Int)] w fun e w' => e = .returned (.int .i64 z) ∧ w = w' := by
  rw [hz, ← codeO_ch h]
  exact codeOf_any c.toNat (Nat.le_of_lt_succ (UInt8.toNat_lt c)) w
theorem chaB_at {s : ByteArray} (h : chaB s = true) {k : Nat} (hk : k < s.size) : chB s[k] = true := by
  have := List.all_eq_true.1 h ((byt s)[k]'(by rw [byt_size]; exact hk)) (List.getElem_mem _)
  exact this
theorem punL_at {s : ByteArray} {k : Nat} (hk : k < s.size) : (ints (punL s))[k]? = some (.int .i64 (codeV s[k].toNat)) := by
  have h1 : k < (punL s).length := by rw [punL_length]; exact hk
  have h2 : (punL s)[k]'h1 = codeV s[k].toNat := by
    simp only [punL, List.getElem_map]
    rfl
  rw [ints_get _ k h1, h2]

end Go.Proofs.YtkmejkeanmjfbaaGreatDoor

/-! ### Comparing fields with texts, the codes of texts; in the program and in the reference. -/
namespace Go.Proofs.YtkmejkeanmjfbaaGreatDoor
open Go.RowKit

theorem field_card (G : Option Addr) (n c : Nat) (w : World) : (Instr.field 26 (.agg #[.slice G n c]) 0).run Tryz.prog w = .ok (.slice G n c) w := by kernel_rfl
/-- The code of a text for a field. -/
def texC (t : ByteArray) (a b : Int) : Int := if lenB a b t = true then (if chaB t = true then 0 else 7) else 2
theorem texC_2 {t : ByteArray} {a b : Int} (h : lenB a b t = false) : texC t a b = 2 := by unfold texC; rw [if_neg (by simp [h])]
theorem texC_7 {t : ByteArray} {a b : Int} (h : lenB a b t = true) (h2 : chaB t = false) : texC t a b = 7 := by unfold texC; rw [if_pos h, if_neg (by simp [h2])]
theorem texC_0 {t : ByteArray} {a b : Int} (h : lenB a b t = true) (h2 : chaB t = true) : texC t a b = 0 := by unfold texC; rw [if_pos h, if_pos h2]
theorem l03Code_z (c : UInt8) (z : Int) (w : World) (hz : z = codeV c.toNat) :
    Calls Tryz.prog 50 #[.int .u8 (c.toNat : Int)] w fun e w' => e = .returned (.int .i64 z) ∧ w = w' := by
  subst hz
  exact l03Code_any c.toNat (Nat.le_of_lt_succ (UInt8.toNat_lt c)) w
/-- The worst code of some texts, of which none has a wrong length. -/
def wstC (ts : List ByteArray) : Int := if ts.all chaB = true then 0 else 7
theorem wstC_nil : wstC [] = 0 := rfl
def askRes (L : List (List Int)) (ts : List ByteArray) (a b : Int) : List (List UInt8) := if colC [L] true ts a b = 0 then keysL L a b else []
theorem askRes_0 {L : List (List Int)} {ts : List ByteArray} {a b : Int} (h : colC [L] true ts a b = 0) : askRes L ts a b = keysL L a b := by unfold askRes; rw [if_pos h]
theorem askRes_1 {L : List (List Int)} {ts : List ByteArray} {a b : Int} (h : colC [L] true ts a b ≠ 0) : askRes L ts a b = [] := by unfold askRes; rw [if_neg h]
theorem col_k1 {L : List (List Int)} {ts : List ByteArray} {a b : Int} (h : codeK L a b ≠ 0) (h8 : codeK L a b ≠ 8) : colC [L] true ts a b = codeK L a b := by
  unfold codeK at *
  by_cases h1 : deckOk L = true
  · rw [if_pos h1] at h h8 ⊢
    by_cases h2 : fieldOk a b (deckW L : Int) = true
    · rw [if_pos h2] at h h8
      exfalso
      revert h h8
      split <;> simp
    · rw [if_neg h2]
      exact colC_2 (by simpa using h1) (by simpa using h2)
  · rw [if_neg h1]
    exact colC_1 (by simpa using h1)
theorem col_k2 {L : List (List Int)} {a b : Int} (h : codeK L a b = 0 ∨ codeK L a b = 8) : deckOk L = true ∧ fieldOk a b (deckW L : Int) = true := by
  unfold codeK at h
  by_cases h1 : deckOk L = true
  · rw [if_pos h1] at h
    by_cases h2 : fieldOk a b (deckW L : Int) = true
    · exact ⟨h1, h2⟩
    · rw [if_neg h2] at h; omega
  · rw [if_neg h1] at h; omega
theorem col_k3 {L : List (List Int)} {ts : List ByteArray} {a b : Int} (h : codeK L a b = 0 ∨ codeK L a b = 8) (ht : ts.all (lenB a b) = false) : colC [L] true ts a b = 2 := by
  obtain ⟨h1, h2⟩ := col_k2 h
  exact colC_3 (by simpa using h1) (by simpa using h2) ht
theorem col_k7 {L : List (List Int)} {ts : List ByteArray} {a b : Int} (h : codeK L a b = 0 ∨ codeK L a b = 8) (ht : ts.all (lenB a b) = true) (hc : ts.all chaB = false) : colC [L] true ts a b = 7 := by
  obtain ⟨h1, h2⟩ := col_k2 h
  exact colC_7 (by simpa using h1) (by simpa using h2) ht hc
theorem col_k8 {L : List (List Int)} {ts : List ByteArray} {a b : Int} (h : codeK L a b = 0 ∨ codeK L a b = 8) (ht : ts.all (lenB a b) = true) (hc : ts.all chaB = true) : colC [L] true ts a b = codeK L a b := by
  obtain ⟨h1, h2⟩ := col_k2 h
  rcases Bool.eq_false_or_eq_true (haveF L a b) with h3 | h3
  · rw [codeK_0 h1 h2 h3]
    exact colC_0 (by simpa using h1) (by simpa using h2) ht hc (by simpa using h3)
  · rw [codeK_8 h1 h2 h3]
    exact colC_8 (by simpa using h1) (by simpa using h2) ht hc (by simpa using h3)
end Go.Proofs.YtkmejkeanmjfbaaGreatDoor

/-! ### The texts of a deck and the code of texts, in the reference. -/
namespace Go.Proofs.YtkmejkeanmjfbaaGreatDoor
open Go.RowKit

theorem wstC_two (ts : List ByteArray) : wstC ts = 0 ∨ wstC ts = 7 := by unfold wstC; split <;> simp
theorem wstC_snoc_t {ts : List ByteArray} {k : Nat} (hk : k < ts.length) (h : chaB ts[k] = true) : wstC (ts.take (k + 1)) = wstC (ts.take k) := by
  unfold wstC
  rw [List.take_succ_eq_append_getElem hk, List.all_append]
  simp [h]
theorem wstC_snoc_f {ts : List ByteArray} {k : Nat} (hk : k < ts.length) (h : chaB ts[k] = false) : wstC (ts.take (k + 1)) = 7 := by
  unfold wstC
  rw [List.take_succ_eq_append_getElem hk, List.all_append]
  simp [h]
theorem wstC_all_0 {ts : List ByteArray} (h : wstC ts = 0) : ts.all chaB = true := by
  unfold wstC at h
  split at h
  · assumption
  · omega
theorem wstC_all_7 {ts : List ByteArray} (h : wstC ts = 7) : ts.all chaB = false := by
  unfold wstC at h
  split at h
  · omega
  · rename_i h1; simpa using h1
theorem askRes_k {L : List (List Int)} {ts : List ByteArray} {a b : Int} (h : colC [L] true ts a b = codeK L a b) : askRes L ts a b = keysRes L a b := by
  unfold askRes keysRes
  rw [h]
theorem ret_nilK {L : List (List UInt8)} {a b : Int} (h : L = []) (k : a = b) : Ending.returned (.tuple #[.slice none 0 0, .int .i64 a]) = .returned (.tuple #[.slice none L.length 0, .int .i64 b]) := by rw [h, k]; rfl
theorem own_nilS (w : World) (B : Nat) {l : List (List UInt8)} (h : l = []) : w.ownsRow B 9 1 (.slice none l.length 0) l.length (strs l) := by
  subst h
  exact World.ownsRow_nil _ _ _ _

end Go.Proofs.YtkmejkeanmjfbaaGreatDoor

/-! ### SelectBetween, SelectEqual; in the program and in the reference. -/
namespace Go.Proofs.YtkmejkeanmjfbaaGreatDoor
open Go.RowKit

theorem rd_str1 {w : World} {g : Nat} {s : ByteArray} (h0 : w.cell? ⟨g, 0, none⟩ = some (.string s)) : Rd w w.heap.size 1 (some ⟨g, 0, none⟩) [s].length (strv [s]) := by
  refine ⟨rfl, fun _ => ⟨g, 0, rfl, World.block_lt_of_cell? _ _ h0, fun j u hu => ?_⟩⟩
  match j with
  | 0 => simp [strv] at hu; subst hu; exact h0
  | j + 1 => simp [strv] at hu
theorem rd_str2 {w : World} {g : Nat} {s t : ByteArray} (h0 : w.cell? ⟨g, 0, none⟩ = some (.string s)) (h1 : w.cell? ⟨g, 1, none⟩ = some (.string t)) : Rd w w.heap.size 1 (some ⟨g, 0, none⟩) [s, t].length (strv [s, t]) := by
  refine ⟨rfl, fun _ => ⟨g, 0, rfl, World.block_lt_of_cell? _ _ h0, fun j u hu => ?_⟩⟩
  match j with
  | 0 => simp [strv] at hu; subst hu; exact h0
  | 1 => simp [strv] at hu; subst hu; exact h1
  | j + 2 => simp [strv] at hu
theorem colC_zero {L : List (List Int)} {ts : List ByteArray} {a b : Int} (h : colC [L] true ts a b = 0) : codeK L a b = 0 ∧ ts.all (lenB a b) = true ∧ ts.all chaB = true := by
  by_cases h0 : codeK L a b = 0 ∨ codeK L a b = 8
  · rcases Bool.eq_false_or_eq_true (ts.all (lenB a b)) with h1 | h1
    · rcases Bool.eq_false_or_eq_true (ts.all chaB) with h2 | h2
      · rw [col_k8 h0 h1 h2] at h
        exact ⟨h, h1, h2⟩
      · rw [col_k7 h0 h1 h2] at h; omega
    · rw [col_k3 h0 h1] at h; omega
  · have h1 : codeK L a b ≠ 0 := fun e => h0 (.inl e)
    rw [col_k1 h1 (fun e => h0 (.inr e))] at h
    exact absurd h h1
/-- The cards that are struck out. -/
def selB (s t : ByteArray) (a b : Int) (x : List Int) : Bool := decide (cmpT (textL (part x a b)) (byt s) < 0) || decide (0 < cmpT (textL (part x a b)) (byt t))
def selRes (L : List (List Int)) (a b : Int) (s t : ByteArray) : List (List Int) := if colC [L] true [s, t] a b = 0 then keep (selB s t a b) L else []
theorem selRes_0 {L : List (List Int)} {a b : Int} {s t : ByteArray} (h : colC [L] true [s, t] a b = 0) : selRes L a b s t = keep (selB s t a b) L := by unfold selRes; rw [if_pos h]
theorem selRes_1 {L : List (List Int)} {a b : Int} {s t : ByteArray} (h : colC [L] true [s, t] a b ≠ 0) : selRes L a b s t = [] := by unfold selRes; rw [if_neg h]
theorem sub_bound2 {M L : List (List Int)} (hs : ∀ x ∈ M, x ∈ L) (hn : M.length ≤ 40) (ho : deckOk L = true) {gs : List Hd} (h : cards gs = M) : gs.length + tot gs ≤ 840 := by
  subst h
  have := deckOk_sum (deckOk_sub hs hn ho)
  rwa [cards_length, ← tot_of_cards (gs := gs) rfl] at this
theorem keep_bound {L : List (List Int)} (p : List Int → Bool) (ho : deckOk L = true) {gs : List Hd} (h : cards gs = keep p L) : gs.length + tot gs ≤ 840 :=
  sub_bound2 (fun x hx => (List.mem_filter.1 hx).1) (Nat.le_trans (List.length_filter_le _ _) (deckOk_len ho)) ho h
theorem nil_bound {gs : List Hd} (h : cards gs = []) : gs.length + tot gs ≤ 840 := by
  have : gs = [] := by
    cases gs with
    | nil => rfl
    | cons x gs => simp [cards] at h
  subst this
  simp [tot]
theorem selRes_bound (L : List (List Int)) (a b : Int) (s t : ByteArray) {gs : List Hd} (h : cards gs = selRes L a b s t) : gs.length + tot gs ≤ 840 := by
  by_cases hz : colC [L] true [s, t] a b = 0
  · rw [selRes_0 hz] at h
    exact keep_bound _ (codeK_zero (colC_zero hz).1).1 h
  · rw [selRes_1 hz] at h
    exact nil_bound h

theorem lenB_nat {i j : Nat} {t : ByteArray} (hij : i < j) (h : lenB (i : Int) (j : Int) t = true) : t.size = j - i := by
  have : (t.size : Int) = (j : Int) - (i : Int) := eq_of_beq h
  omega
end Go.Proofs.YtkmejkeanmjfbaaGreatDoor

/-! ### SelectBetween, SelectEqual; in the reference; SelectEqual in the program. -/
namespace Go.Proofs.YtkmejkeanmjfbaaGreatDoor
open Go.RowKit

/-- Behind k cards. -/
def SeR (L : List (List Int)) (pred : List Int → Bool) (ks : List (List UInt8)) (K : Option Addr) (ck n : Nat) (w wr : World) (o q : Value) : Prop := ∃ (k : Nat) (G : Option Addr) (cg : Nat) (gs : List Hd), k ≤ n ∧ q = .int .i64 k ∧ o = .slice G gs.length cg ∧ gs.length ≤ k ∧ cards gs = keep pred (L.take k) ∧
  ObD wr w.heap.size wr.heap.size 26 2 G cg gs ∧ Ob wr w.heap.size wr.heap.size 9 1 (.slice K n ck) n (strs ks) ∧ Below w.heap.size w wr

/-- One text twice. -/
theorem colC_twice (L : List (List Int)) (a b : Int) (s : ByteArray) : colC [L] true [s, s] a b = colC [L] true [s] a b := by
  unfold colC
  simp
theorem ret_dd2 {E : Option Addr} {n ce : Nat} {a b : Int} (h : a = b) : Ending.returned (.tuple #[.slice E n ce, .int .i64 a]) = .returned (.tuple #[.slice E n ce, .int .i64 b]) := by rw [h]
end Go.Proofs.YtkmejkeanmjfbaaGreatDoor
