/- VerifyAll: the plain result; in the reference. VerifyAll, in the program. -/
import Derived.Test.YtkmejkeanmjfbaaPunchAll
import Derived.Test.YtkmejkeanmjfbaaLater
import Derived.Test.YtkmejkeanmjfbaaCuts
import Derived.Deep.RegionLaw
import Derived.Deep.DeepCutAuto
/-! ### VerifyAll: the plain result; in the reference. -/
namespace Go.Proofs.Ytkmejkeanmjfbaa
open Go.RowKit

/-! ### plain -/
def befL (xs : List Int) (L : List (List Int)) (i : Nat) : List Int := if i = 0 then xs else L.getD (i - 1) []
def txt (ts : List ByteArray) (i : Nat) : ByteArray := ts.getD i ⟨#[]⟩
def vaP (s : ByteArray) (xs : List Int) (L : List (List Int)) (ts : List ByteArray) (i : Nat) : Bool := decide (0 ≤ verV s (befL xs L i) (txt ts i) (L.getD i []))
def vaO (s : ByteArray) (ts : List ByteArray) (i : Nat) : Option Int := if chkC s (txt ts i) = 0 then none else some (chkC s (txt ts i))
def l5C (s : ByteArray) (xs : List Int) : Int := if progB s = true ∧ cardOk xs = true then (if xs.length = s.size then 0 else 2) else 1
def vaQ (s : ByteArray) (xs : List Int) (L : List (List Int)) (m : Nat) : Int := if pgC s (deckOk L) (xs :: L) = 0 then (if m = L.length then 0 else 2) else pgC s (deckOk L) (xs :: L)
def vaC (s : ByteArray) (xs : List Int) (L : List (List Int)) (ts : List ByteArray) : Int := if vaQ s xs L ts.length = 0 then (((List.range L.length).findSome? (vaO s ts)).getD 0) else vaQ s xs L ts.length
def vaR (s : ByteArray) (xs : List Int) (L : List (List Int)) (ts : List ByteArray) : List Int := if vaC s xs L ts = 0 then colsWhere (vaP s xs L ts) L.length else []
theorem vaR_0 {s : ByteArray} {xs : List Int} {L : List (List Int)} {ts : List ByteArray} (h : vaC s xs L ts = 0) : vaR s xs L ts = colsWhere (vaP s xs L ts) L.length := by unfold vaR; rw [if_pos h]
theorem vaR_1 {s : ByteArray} {xs : List Int} {L : List (List Int)} {ts : List ByteArray} (h : ¬ vaC s xs L ts = 0) : vaR s xs L ts = [] := by unfold vaR; rw [if_neg h]
theorem vaC_q {s : ByteArray} {xs : List Int} {L : List (List Int)} {ts : List ByteArray} (h : ¬ vaQ s xs L ts.length = 0) : vaC s xs L ts = vaQ s xs L ts.length := by unfold vaC; rw [if_neg h]
def NoK (s : ByteArray) (ts : List ByteArray) (k : Nat) : Prop := ∀ j, j < k → chkC s (txt ts j) = 0
theorem NoK.zero (s : ByteArray) (ts : List ByteArray) : NoK s ts 0 := fun j h => absurd h (Nat.not_lt_zero j)
theorem NoK.succ {s : ByteArray} {ts : List ByteArray} {k : Nat} (h : NoK s ts k) (hk : chkC s (txt ts k) = 0) : NoK s ts (k + 1) := by
  intro j hj
  rcases Nat.lt_succ_iff_lt_or_eq.1 hj with hj | rfl
  · exact h j hj
  · exact hk
theorem vaC_some {s : ByteArray} {xs : List Int} {L : List (List Int)} {ts : List ByteArray} {k : Nat} (hq : vaQ s xs L ts.length = 0) (hk : k < L.length) (hno : NoK s ts k) (hc : ¬ chkC s (txt ts k) = 0) : vaC s xs L ts = chkC s (txt ts k) := by
  unfold vaC
  rw [if_pos hq, ff_some hk (fun j hj => by unfold vaO; rw [if_pos (hno j hj)]) (show vaO s ts k = some (chkC s (txt ts k)) by unfold vaO; rw [if_neg hc])]
  rfl
theorem vaC_none {s : ByteArray} {xs : List Int} {L : List (List Int)} {ts : List ByteArray} (hq : vaQ s xs L ts.length = 0) (hno : NoK s ts L.length) : vaC s xs L ts = 0 := by
  unfold vaC
  have : (List.range L.length).findSome? (vaO s ts) = none := by
    rw [List.findSome?_eq_none_iff]
    intro j hj
    unfold vaO
    rw [if_pos (hno j (List.mem_range.1 hj))]
  rw [if_pos hq, this]
  rfl
theorem deck_all {L : List (List Int)} (h : deckOk L = true) : L.all cardOk = true := by
  refine List.all_eq_true.2 fun x hx => ?_
  obtain ⟨k, hk, rfl⟩ := List.mem_iff_getElem.1 hx
  exact (deckOk_card h hk).1
section
variable {s : ByteArray} {xs : List Int} {L : List (List Int)} {m : Nat}
theorem pg_bad (h : deckOk L = false) : vaQ s xs L m = 1 := by
  have : pgC s (deckOk L) (xs :: L) = 1 := by unfold pgC; rw [if_neg (by simp [h])]
  unfold vaQ
  rw [this, if_neg (by omega)]
theorem pg_z (h : deckOk L = true) (hz : ¬ l5C s xs = 0) : vaQ s xs L m = l5C s xs := by
  have : pgC s (deckOk L) (xs :: L) = l5C s xs := by
    unfold pgC l5C
    unfold l5C at hz
    by_cases h1 : progB s = true ∧ cardOk xs = true
    · rw [if_pos h1] at hz ⊢
      rw [if_pos ⟨h1.1, h, by rw [List.all_cons, h1.2, deck_all h]; rfl⟩]
      by_cases h2 : xs.length = s.size
      · rw [if_pos h2] at hz; omega
      · rw [if_neg h2, if_neg (by unfold widB; simp [h2])]
    · rw [if_neg h1, if_neg]
      rintro ⟨g1, _, g3⟩
      rw [List.all_cons, Bool.and_eq_true] at g3
      exact h1 ⟨g1, g3.1⟩
  unfold vaQ
  rw [this, if_neg hz]
theorem l5C_0 (h : l5C s xs = 0) : progB s = true ∧ cardOk xs = true ∧ xs.length = s.size := by
  unfold l5C at h
  split at h
  · rename_i h1
    split at h
    · rename_i h2
      exact ⟨h1.1, h1.2, h2⟩
    · omega
  · omega
theorem pg_two (h : deckOk L = true) (hz : l5C s xs = 0) : pgC s (deckOk L) (xs :: L) = if L.all (widB s) = true then 0 else 2 := by
  obtain ⟨h1, h2, h3⟩ := l5C_0 hz
  unfold pgC
  rw [if_pos ⟨h1, h, by rw [List.all_cons, h2, deck_all h]; rfl⟩]
  have : (xs :: L).all (widB s) = L.all (widB s) := by rw [List.all_cons]; unfold widB; simp [h3]
  rw [this]
theorem pg_m (h : deckOk L = true) (hz : l5C s xs = 0) (hm : ¬ m = L.length) : vaQ s xs L m = 2 := by
  unfold vaQ
  rw [pg_two h hz]
  by_cases hw : L.all (widB s) = true
  · rw [if_pos hw, if_pos rfl, if_neg hm]
  · rw [if_neg hw, if_neg (by omega)]
theorem pg_w (h : deckOk L = true) (hz : l5C s xs = 0) (h0 : 0 < L.length) (hw : ¬ (L[0]'h0).length = s.size) : vaQ s xs L m = 2 := by
  have : L.all (widB s) = false := al_bad h0 (by unfold widB; simp [hw])
  unfold vaQ
  rw [pg_two h hz, this]
  simp
theorem pg_0 (h : deckOk L = true) (hz : l5C s xs = 0) (hm : m = L.length) (hw : ∀ (h0 : 0 < L.length), (L[0]'h0).length = s.size) : vaQ s xs L m = 0 ∧ ∀ k (hk : k < L.length), L[k].length = s.size := by
  have key : ∀ k (hk : k < L.length), L[k].length = s.size := fun k hk => by
    rw [(deckOk_card h hk).2, ← hw (by omega), (deckOk_card h (show 0 < L.length by omega)).2]
  refine ⟨?_, key⟩
  have : L.all (widB s) = true := by
    refine List.all_eq_true.2 fun x hx => ?_
    obtain ⟨k, hk, rfl⟩ := List.mem_iff_getElem.1 hx
    unfold widB
    simp [key k hk]
  unfold vaQ
  rw [pg_two h hz, if_pos this, if_pos rfl, if_pos hm]
theorem vaQ_0 (h : vaQ s xs L m = 0) : deckOk L = true ∧ l5C s xs = 0 ∧ m = L.length ∧ ∀ k (hk : k < L.length), L[k].length = s.size := by
  cases hd : deckOk L with
  | false => rw [pg_bad hd] at h; omega
  | true =>
    by_cases hz : l5C s xs = 0
    · by_cases hm : m = L.length
      · refine ⟨rfl, hz, hm, ?_⟩
        by_cases h0 : 0 < L.length
        · by_cases hw : (L[0]'h0).length = s.size
          · exact (pg_0 hd hz hm fun _ => hw).2
          · rw [pg_w hd hz h0 hw] at h; omega
        · intro k hk
          omega
      · rw [pg_m hd hz hm] at h; omega
    · rw [pg_z hd hz] at h; exact absurd h hz
end
theorem vaR_length (s : ByteArray) (xs : List Int) (L : List (List Int)) (ts : List ByteArray) : (vaR s xs L ts).length ≤ 40 := by
  unfold vaR
  split
  · rename_i h
    have hq : vaQ s xs L ts.length = 0 := by
      by_cases hq : vaQ s xs L ts.length = 0
      · exact hq
      · rw [vaC_q hq] at h; exact absurd h hq
    have h1 := colsWhere_le (vaP s xs L ts) L.length
    have h2 := deckOk_len (vaQ_0 hq).1
    omega
  · simp
theorem befL_succ {xs : List Int} {hs : List Hd} {k : Nat} (h : k < hs.length) : befL xs (cards hs) (k + 1) = hs[k].xs := by
  unfold befL
  rw [if_neg (by omega), Nat.add_sub_cancel, List.getD_eq_getElem?_getD, cards_get hs k h]
  rfl
theorem txt_at {ts : List ByteArray} {k : Nat} (h : k < ts.length) : txt ts k = ts[k] := by simp [txt, List.getD, List.getElem?_eq_getElem h]
theorem cards_getD {hs : List Hd} {k : Nat} (h : k < hs.length) : (cards hs).getD k [] = hs[k].xs := by rw [List.getD_eq_getElem?_getD, cards_get hs k h]; rfl

theorem l05Code_any (s : ByteArray) (p o : Nat) (A : Option Addr) (c : Nat) (xs : List Int) (w : World) (hc : w.cell? ⟨p, o, none⟩ = some (.slice A xs.length c)) (ha : Rd w w.heap.size 1 A xs.length (ints xs)) (hl : xs.length ≤ 1048576) (hs : s.size ≤ 1048576) :
    Calls Try.prog 25 #[.string s, .pointer (some ⟨p, o, none⟩)] w fun e w' => e = .returned (.int .i64 (l5C s xs)) ∧ Below w.heap.size w w' := by
  cases hp : progB s
  · have HC := Lib.hid (show l5C s xs = 1 by unfold l5C; rw [if_neg (by simp [hp])])
    have HP := Lib.hid hp
    clear hp
    go_enter Try.func25, Try.ntmps25
    go_wp2_with fail
    refine (l05Ok_any s _ hs).mono ?_
    rw [HP.out]
    rintro e w1 ⟨rfl, rfl⟩
    go_wp2
    go_ret
    exact ⟨ret_int HC.out.symm, b0 _⟩
  · have HP := Lib.hid hp
    clear hp
    have HOK := Lib.hid (l02Ok_any p o A c xs w hc ha hl)
    cases hk : cardOk xs
    · have HC := Lib.hid (show l5C s xs = 1 by unfold l5C; rw [if_neg (by simp [hk])])
      rw [hk] at HOK
      clear hk
      go_enter Try.func25, Try.ntmps25
      go_wp2_with fail
      refine (l05Ok_any s _ hs).mono ?_
      rw [HP.out]
      rintro e w1 ⟨rfl, rfl⟩
      go_wp2_with fail
      refine HOK.out.mono ?_
      rintro e w2 ⟨rfl, hb2⟩
      go_wp2
      go_ret
      exact ⟨ret_int HC.out.symm, hb2⟩
    · rw [hk] at HOK
      by_cases hw : xs.length = s.size
      · have HC := Lib.hid (show l5C s xs = 0 by unfold l5C; rw [if_pos ⟨HP.out, hk⟩, if_pos hw])
        have i1 : ((xs.length : Int) != (s.size : Int)) = false := bne_f (by omega)
        clear hk hw
        go_enter Try.func25, Try.ntmps25
        go_wp2_with fail
        refine (l05Ok_any s _ hs).mono ?_
        rw [HP.out]
        rintro e w1 ⟨rfl, rfl⟩
        go_wp2_with fail
        refine HOK.out.mono ?_
        rintro e w2 ⟨rfl, hb2⟩
        have hc2 := cell_later hb2 hc
        go_wp2
        go_ret
        exact ⟨ret_int HC.out.symm, hb2⟩
      · have HC := Lib.hid (show l5C s xs = 2 by unfold l5C; rw [if_pos ⟨HP.out, hk⟩, if_neg hw])
        have i1 : ((xs.length : Int) != (s.size : Int)) = true := bne_t (by omega)
        clear hk hw
        go_enter Try.func25, Try.ntmps25
        go_wp2_with fail
        refine (l05Ok_any s _ hs).mono ?_
        rw [HP.out]
        rintro e w1 ⟨rfl, rfl⟩
        go_wp2_with fail
        refine HOK.out.mono ?_
        rintro e w2 ⟨rfl, hb2⟩
        have hc2 := cell_later hb2 hc
        go_wp2
        go_ret
        exact ⟨ret_int HC.out.symm, hb2⟩

/-- Behind k cards. -/
def VsR (s : ByteArray) (xs : List Int) (hs : List Hd) (ts : List ByteArray) (W wr : World) (q11 q12 q13 : Value) : Prop := ∃ (k : Nat) (G : Option Addr) (cg pb po : Nat) (h : Option Addr) (hc : Nat), k ≤ hs.length ∧ q13 = .int .i64 k ∧ q11 = .slice G (colsWhere (vaP s xs (cards hs) ts) k).length cg ∧
  q12 = .pointer (some ⟨pb, po, none⟩) ∧ W.cell? ⟨pb, po, none⟩ = some (.slice h s.size hc) ∧ Rd W W.heap.size 1 h s.size (ints (befL xs (cards hs) k)) ∧ (befL xs (cards hs) k).length = s.size ∧ NoK s ts k ∧
  wr.ownsRow W.heap.size 2 1 (.slice G (colsWhere (vaP s xs (cards hs) ts) k).length cg) (colsWhere (vaP s xs (cards hs) ts) k).length (ints (colsWhere (vaP s xs (cards hs) ts) k)) ∧ Below W.heap.size W wr
end Go.Proofs.Ytkmejkeanmjfbaa

/-! ### VerifyAll, in the program. -/
namespace Go.Proofs.Ytkmejkeanmjfbaa
open Go.RowKit

/-- A card put ahead of a deck's cards. -/
theorem rdd_cons {W w : World} {base : Nat} {e : TypeId} {G D : Option Addr} {cp : Nat} {A : Option Addr} {c : Nat} {xs : List Int} {hs : List Hd} (ho : w.ownsRow base e 1 (.slice G (hs.length + 1) cp) (hs.length + 1) (.slice A xs.length c :: heads hs)) (hB : Below W.heap.size W w)
    (ra : Rd W W.heap.size 1 A xs.length (ints xs)) (hc : xs.length ≤ c) (rd : RdD W W.heap.size D hs) : RdD w w.heap.size G (⟨A, c, xs⟩ :: hs) := by
  have rd2 := rd.up hB
  refine ⟨Rd.own ho, fun x hx => ?_, fun x hx => ?_⟩
  · rcases List.mem_cons.1 hx with rfl | hx
    · exact ra.up hB
    · exact rd2.card x hx
  · rcases List.mem_cons.1 hx with rfl | hx
    · exact hc
    · exact rd2.cap x hx

section
variable {w w' : World} {base : Nat} {e : TypeId} {size : Nat} {G : Option Addr} {n m c b : Nat} {xs : List Value}
theorem gr_ne (h : w.ownsRow base e size (.slice G n c) m xs) (hG : ∀ g, G = some ⟨g, 0, none⟩ → ¬ g = b) : (Value.slice G n c).ownBlock ≠ some b := by
  intro hb
  obtain ⟨ad, rfl, rfl⟩ := ownBlock_some hb
  rcases h.2 with ⟨hv, _⟩ | ⟨g, cap, cur, hv, _⟩
  · cases hv
  · injection hv with hv
    injection hv with hv
    subst hv
    exact hG g rfl rfl
theorem gr_cell (h : w.ownsRow base e size (.slice G n c) m xs) (hg : w.grownBy w' (Value.slice G n c).ownBlock) (hG : ∀ g, G = some ⟨g, 0, none⟩ → ¬ g = b) {o : Nat} {v : Value} (hc : w.cell? ⟨b, o, none⟩ = some v) : w'.cell? ⟨b, o, none⟩ = some v :=
  (World.cell?_of_block (hg.block b (World.block_lt_of_cell? _ _ hc) (fun e => gr_ne h hG e.symm))).trans hc
theorem gr_froz (h : w.ownsRow base e size (.slice G n c) m xs) (hg : w.grownBy w' (Value.slice G n c).ownBlock) (hG : ∀ g, G = some ⟨g, 0, none⟩ → ¬ g = b) {o : Nat} (hc : w.frozen? ⟨b, o, none⟩ = false) (hb : b < w.heap.size) : w'.frozen? ⟨b, o, none⟩ = false :=
  (World.frozen?_of_block (hg.block b hb (fun e => gr_ne h hG e.symm))).trans hc
end
/-- Behind k cards. -/
def ViR (s : ByteArray) (xs : List Int) (hs : List Hd) (ts : List ByteArray) (b12 : Nat) (W wr : World) (q11 q39 : Value) : Prop := ∃ (k : Nat) (G : Option Addr) (cg : Nat) (h : Option Addr) (hc : Nat), k ≤ hs.length ∧ q39 = .int .i64 k ∧ q11 = .slice G (colsWhere (vaP s xs (cards hs) ts) k).length cg ∧
  wr.cell? ⟨b12, 0, none⟩ = some (.slice h s.size hc) ∧ wr.frozen? ⟨b12, 0, none⟩ = false ∧ Rd W W.heap.size 1 h s.size (ints (befL xs (cards hs) k)) ∧ (befL xs (cards hs) k).length = s.size ∧ NoK s ts k ∧
  wr.ownsRow W.heap.size 2 1 (.slice G (colsWhere (vaP s xs (cards hs) ts) k).length cg) (colsWhere (vaP s xs (cards hs) ts) k).length (ints (colsWhere (vaP s xs (cards hs) ts) k)) ∧ (∀ g, G = some ⟨g, 0, none⟩ → ¬ g = b12) ∧ Below W.heap.size W wr ∧ b12 < wr.heap.size
end Go.Proofs.Ytkmejkeanmjfbaa
