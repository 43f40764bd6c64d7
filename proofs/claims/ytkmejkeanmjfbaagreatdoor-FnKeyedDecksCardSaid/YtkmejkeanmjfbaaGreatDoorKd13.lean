/- A deck after a pass has the same cards; the cards after passes. No walk here. Groups: GroupsOf, SequenceErrors; in the program and in the reference. -/
import Derived.Test.YtkmejkeanmjfbaaGreatDoorKd11
import Derived.Test.YtkmejkeanmjfbaaGreatDoorKd12
import Derived.Test.YtkmejkeanmjfbaaGreatDoorKd10
/-! ### RunLaw -/
namespace Go.Proofs.YtkmejkeanmjfbaaGreatDoor
open Go.RowKit

theorem perm_parts {α : Type} (f : α → Int) : ∀ (ks : List Nat), ks.Nodup → ∀ L : List α, (ks.flatMap fun (k : Nat) => L.filter fun x => f x == (k : Int)).Perm (L.filter fun x => ks.any fun (k : Nat) => f x == (k : Int))
  | [], _, L => by simp
  | k :: ks, h, L => by
    obtain ⟨hk, hks⟩ := List.nodup_cons.1 h
    have ih := perm_parts f ks hks L
    rw [List.flatMap_cons]
    have h1 := List.filter_append_perm (fun x => f x == (k : Int)) (L.filter fun x => (k :: ks).any fun (k : Nat) => f x == (k : Int))
    refine .trans ?_ h1
    rw [List.filter_filter, List.filter_filter]
    have e1 : (fun a => f a == (k : Int) && (k :: ks).any fun (k : Nat) => f a == (k : Int)) = fun a => f a == (k : Int) := by
      funext a
      simp only [List.any_cons]
      cases (f a == (k : Int)) <;> simp
    have e2 : (fun a => (!(f a == (k : Int))) && (k :: ks).any fun (k : Nat) => f a == (k : Int)) = fun a => ks.any fun (k : Nat) => f a == (k : Int) := by
      funext a
      simp only [List.any_cons]
      by_cases hf : f a = (k : Int)
      · have h0 : (ks.any fun (k : Nat) => f a == (k : Int)) = false := by
          rw [List.any_eq_false]
          intro x hx hfx
          simp only [beq_iff_eq] at hfx
          rw [hf] at hfx
          exact hk (by rw [show k = x by omega]; exact hx)
        rw [h0, hf]
        simp
      · have : (f a == (k : Int)) = false := by simpa using hf
        rw [this]
        simp
    rw [e1, e2]
    exact .append (.refl _) ih
theorem ordN_nodup (m : Int) : (ordN m).Nodup := by unfold ordN; split <;> decide
theorem pkt_ord (x : List Int) (i : Nat) {b : Int} (hb : b = 1 ∨ b = 2) : ((ordN b).any fun (k : Nat) => pkt x i b == (k : Int)) = true := by
  have key : ∀ v : Int, v ∈ (ordN b).map (fun (k : Nat) => (k : Int)) → ((ordN b).any fun (k : Nat) => v == (k : Int)) = true := by
    intro v hv
    obtain ⟨k, hk, rfl⟩ := List.mem_map.1 hv
    exact List.any_eq_true.2 ⟨k, hk, by simp⟩
  refine key _ ?_
  unfold pkt pocketI pocketP
  rcases hb with rfl | rfl
  · rw [if_pos rfl]
    have h := digitFrom_range (x.getD i 0).toNat 9
    generalize digitFrom (x.getD i 0).toNat 9 = v at h
    have hv : v = 0 ∨ v = 1 ∨ v = 2 ∨ v = 3 ∨ v = 4 ∨ v = 5 ∨ v = 6 ∨ v = 7 ∨ v = 8 ∨ v = 9 ∨ v = 12 := by omega
    rcases hv with rfl | rfl | rfl | rfl | rfl | rfl | rfl | rfl | rfl | rfl | rfl <;> decide
  · rw [if_neg (by decide)]
    have h := zoneP_range (x.getD i 0).toNat
    rcases h with h | h | h | h | h <;> rw [h] <;> decide
theorem sortDD_getD (L : List (List Int)) (i : Nat) (b : Int) {j : Nat} (h : j < 13) : (sortDD L i b).getD j [] = pocketL L i b j := by
  simp [sortDD, List.getD, h]
theorem gath_sort (L : List (List Int)) (i : Nat) (b : Int) : gathL (sortDD L i b) b = (ordN b).flatMap fun j => pocketL L i b j := by
  unfold gathL
  rw [List.flatMap_def, List.flatMap_def]
  congr 1
  apply List.map_congr_left
  intro j hj
  obtain ⟨k, hk, rfl⟩ := List.mem_iff_getElem.1 hj
  exact sortDD_getD L i b (ordN_lt b k hk)
/-- A deck after one pass, after some. -/
def runP (L : List (List Int)) (p : Int × Int) : List (List Int) := gathL (sortDD L p.1.toNat p.2) p.2
def runL (L : List (List Int)) (ps : List (Int × Int)) : List (List Int) := ps.foldl runP L
theorem runL_zero (L : List (List Int)) : runL L [] = L := rfl
theorem runL_succ (L : List (List Int)) (ps : List (Int × Int)) (k : Nat) (h : k < ps.length) : runL L (ps.take (k + 1)) = runP (runL L (ps.take k)) ps[k] := by
  unfold runL
  rw [List.take_succ_eq_append_getElem h, List.foldl_append]
  rfl
theorem runP_perm (L : List (List Int)) {p : Int × Int} (h : p.2 = 1 ∨ p.2 = 2) : (runP L p).Perm L := by
  unfold runP
  rw [gath_sort]
  have h1 := perm_parts (fun x => pkt x p.1.toNat p.2) (ordN p.2) (ordN_nodup _) L
  have h2 : (L.filter fun x => (ordN p.2).any fun (k : Nat) => pkt x p.1.toNat p.2 == (k : Int)) = L := List.filter_eq_self.2 fun x _ => pkt_ord x _ h
  rw [h2] at h1
  exact h1
theorem passesOk_at {cols : Int} {ps : List (Int × Int)} (h : passesOk cols ps = true) {k : Nat} (hk : k < ps.length) : passOk cols ps[k] = true := by
  simp only [passesOk, Bool.and_eq_true] at h
  exact List.all_eq_true.1 h.2 _ (List.getElem_mem hk)
theorem passOk_mode {cols : Int} {p : Int × Int} (h : passOk cols p = true) : p.2 = 1 ∨ p.2 = 2 := by
  simp only [passOk, Bool.and_eq_true] at h
  exact modeB_true h.2
theorem runL_perm (L : List (List Int)) {cols : Int} : ∀ {ps : List (Int × Int)}, (∀ p ∈ ps, passOk cols p = true) → (runL L ps).Perm L
  | [], _ => .refl _
  | p :: ps, h => by
    have h1 := runL_perm (runP L p) (ps := ps) fun q hq => h q (List.mem_cons_of_mem _ hq)
    exact h1.trans (runP_perm L (passOk_mode (h p (List.mem_cons_self ..))))
theorem wid0_mem {L M : List (List Int)} (hs : ∀ x ∈ L, x ∈ M) (ho : deckOk M = true) (h0 : 0 < L.length) : wid0 L = wid0 M := by
  cases L with
  | nil => simp at h0
  | cons x L =>
    obtain ⟨k, hk, e⟩ := List.mem_iff_getElem.1 (hs x (List.mem_cons_self ..))
    have h1 := (deckOk_card ho hk).2
    rw [e] at h1
    exact h1
theorem deckOk_sub {L M : List (List Int)} (hs : ∀ x ∈ L, x ∈ M) (hn : L.length ≤ 40) (ho : deckOk M = true) : deckOk L = true := by
  unfold deckOk
  rw [Bool.and_eq_true]
  refine ⟨List.all_eq_true.2 fun x hx => ?_, by simpa using hn⟩
  obtain ⟨k, hk, e⟩ := List.mem_iff_getElem.1 (hs x hx)
  have h1 := deckOk_card ho hk
  rw [e] at h1
  have h2 := wid0_mem hs ho (List.length_pos_of_mem hx)
  unfold deckP
  rw [Bool.and_eq_true]
  exact ⟨h1.1, by rw [h2]; simpa using h1.2⟩
theorem deckOk_perm {L M : List (List Int)} (h : L.Perm M) (ho : deckOk M = true) : deckOk L = true :=
  deckOk_sub (fun _ hx => h.mem_iff.1 hx) (by rw [h.length_eq]; exact deckOk_len ho) ho
theorem deckW_perm {L M : List (List Int)} (h : L.Perm M) (ho : deckOk M = true) : deckW L = deckW M := by
  unfold deckW
  rw [h.length_eq]
  split
  · rfl
  · exact wid0_mem (fun _ hx => h.mem_iff.1 hx) ho (by rw [h.length_eq]; omega)
theorem sum_perm {L M : List (List Int)} (h : L.Perm M) : (L.map List.length).sum = (M.map List.length).sum := (h.map _).sum_nat
/-- The bound of a valid deck. -/
theorem deckOk_sum {L : List (List Int)} (h : deckOk L = true) : L.length + (L.map List.length).sum ≤ 840 := by
  have h1 := sum_len_le L (deckOk_le h)
  have h2 := deckOk_len h
  omega
def codeP (L : List (List Int)) (ps : List (Int × Int)) : Int := if deckOk L = true then (if passesOk (deckW L : Int) ps = true then 0 else 2) else 1
def runRes (L : List (List Int)) (ps : List (Int × Int)) : List (List Int) := if codeP L ps = 0 then runL L ps else []
theorem codeP_1 {L : List (List Int)} {ps : List (Int × Int)} (h : deckOk L = false) : codeP L ps = 1 ∧ runRes L ps = [] := by
  have : codeP L ps = 1 := by unfold codeP; rw [if_neg (by simp [h])]
  exact ⟨this, by unfold runRes; rw [this, if_neg (by decide)]⟩
theorem codeP_2 {L : List (List Int)} {ps : List (Int × Int)} (h : deckOk L = true) (h2 : passesOk (deckW L : Int) ps = false) : codeP L ps = 2 ∧ runRes L ps = [] := by
  have : codeP L ps = 2 := by unfold codeP; rw [if_pos h, if_neg (by simp [h2])]
  exact ⟨this, by unfold runRes; rw [this, if_neg (by decide)]⟩
theorem codeP_0 {L : List (List Int)} {ps : List (Int × Int)} (h : deckOk L = true) (h2 : passesOk (deckW L : Int) ps = true) : codeP L ps = 0 ∧ runRes L ps = runL L ps := by
  have : codeP L ps = 0 := by unfold codeP; rw [if_pos h, if_pos h2]
  exact ⟨this, by unfold runRes; rw [this, if_pos rfl]⟩
theorem runRes_bound (L : List (List Int)) (ps : List (Int × Int)) {gs : List Hd} (h : cards gs = runRes L ps) : gs.length + tot gs ≤ 840 := by
  have e2 : gs.length = (cards gs).length := (cards_length gs).symm
  rw [tot_of_cards rfl, e2, h]
  rcases Bool.eq_false_or_eq_true (deckOk L) with h1 | h1
  · rcases Bool.eq_false_or_eq_true (passesOk (deckW L : Int) ps) with h2 | h2
    · rw [(codeP_0 h1 h2).2]
      simp only [passesOk, Bool.and_eq_true] at h2
      have hp := runL_perm L (fun p hp => List.all_eq_true.1 h2.2 p hp)
      rw [sum_perm hp, hp.length_eq]
      exact deckOk_sum h1
    · rw [(codeP_2 h1 h2).2]; simp
  · rw [(codeP_1 h1).2]; simp
/-- One pass is a list of one. -/
theorem code7_codeP (L : List (List Int)) (a b : Int) : code7 L a b = codeP L [(a, b)] := by
  unfold code7 codeP
  rw [passesOk_one]
theorem col_cards {cols : Nat} {p : Int × Int} (h : passOk (cols : Int) p = true) : ∃ i : Nat, p.1 = (i : Int) ∧ i < cols := by
  obtain ⟨a, b⟩ := p
  exact passOk_col h
end Go.Proofs.YtkmejkeanmjfbaaGreatDoor

/-! ### Groups -/
namespace Go.Proofs.YtkmejkeanmjfbaaGreatDoor
open Go.RowKit

/-- Behind k cards. -/
def GrR (L : List (List Int)) (i j : Nat) (w wr : World) (o q : Value) : Prop := ∃ (k : Nat) (g cg : Nat), k ≤ L.length ∧ q = .int .i64 k ∧ o = .slice (some ⟨g, 0, none⟩) (grpL L (i : Int) (j : Int) k).length cg ∧
  wr.ownsRow w.heap.size 2 1 (.slice (some ⟨g, 0, none⟩) (grpL L (i : Int) (j : Int) k).length cg) (grpL L (i : Int) (j : Int) k).length (ints (grpL L (i : Int) (j : Int) k)) ∧ Below w.heap.size w wr

theorem ba_beq (s t : ByteArray) : (s == t) = decide (s = t) := by
  rw [Bool.eq_iff_iff]
  constructor
  · intro h
    have h2 : s.data == t.data := h
    have h3 := eq_of_beq h2
    cases s; cases t; simp_all
  · intro h
    have h := of_decide_eq_true h
    subst h
    show (s.data == s.data) = true
    exact beq_self_eq_true _
theorem ba_bne (s t : ByteArray) : (s != t) = !decide (s = t) := by
  show (!(s == t)) = _
  rw [ba_beq]
theorem ba_list_t {s t : ByteArray} (h : s = t) : (s.toList == t.toList) = true := by
  subst h
  exact beq_self_eq_true _
theorem ba_list_f {s t : ByteArray} (h : ¬ s = t) : (s.toList == t.toList) = false := by
  rw [beq_eq_false_iff_ne]
  intro e
  rw [Lib.toList_data, Lib.toList_data] at e
  exact h (by cases s; cases t; simp_all)
theorem bs_inj {s t : List UInt8} : (bs_ s = bs_ t) ↔ s = t := by
  constructor
  · intro h
    have := congrArg byt h
    simpa [byt_bs] using this
  · intro h
    rw [h]
theorem grp_text {L : List (List Int)} (hok : deckOk L = true) {i j : Nat} (hij : i < j) (hj : j ≤ deckW L) (hv : haveF L (i : Int) (j : Int) = true) {p q : Nat} (hp : p < L.length) (hq : q < L.length) :
    (textL (part L[p] (i : Int) (j : Int)) = textL (part L[q] (i : Int) (j : Int))) ↔ cmpC L (i : Int) (j : Int) q p = 0 := by
  rw [cmpC_at hq hp, ← text_eq (haveF_at hv hq) (haveF_at hv hp) (by rw [(part_deck hok hij hj hq).1, (part_deck hok hij hj hp).1])]
  exact ⟨fun h => h.symm, fun h => h.symm⟩
def grpRes (L : List (List Int)) (a b : Int) : List Int := if codeK L a b = 0 then grpL L a b L.length else []
theorem grpRes_0 {L : List (List Int)} {a b : Int} (h : codeK L a b = 0) : grpRes L a b = grpL L a b L.length := by unfold grpRes; rw [if_pos h]
theorem grpRes_1 {L : List (List Int)} {a b : Int} (h : codeK L a b ≠ 0) : grpRes L a b = [] := by unfold grpRes; rw [if_neg h]
theorem grpRes_len (L : List (List Int)) (a b : Int) : (grpRes L a b).length ≤ 40 := by
  by_cases h : codeK L a b = 0
  · rw [grpRes_0 h]
    have h1 := grpL_len L a b L.length
    have h2 := deckOk_len (codeK_zero h).1
    omega
  · rw [grpRes_1 h]; simp
def seqRes (L : List (List Int)) (a b : Int) : List Int := if codeK L a b = 0 then stepsL L a b L.length else []
theorem seqRes_0 {L : List (List Int)} {a b : Int} (h : codeK L a b = 0) : seqRes L a b = stepsL L a b L.length := by unfold seqRes; rw [if_pos h]
theorem seqRes_1 {L : List (List Int)} {a b : Int} (h : codeK L a b ≠ 0) : seqRes L a b = [] := by unfold seqRes; rw [if_neg h]
theorem seqRes_len (L : List (List Int)) (a b : Int) : (seqRes L a b).length ≤ 40 := by
  by_cases h : codeK L a b = 0
  · rw [seqRes_0 h]
    have h1 := stepsL_len L a b L.length
    have h2 := deckOk_len (codeK_zero h).1
    omega
  · rw [seqRes_1 h]; simp
theorem own_nilI (w : World) (B : Nat) {l : List Int} (h : l = []) : w.ownsRow B 2 1 (.slice none l.length 0) l.length (ints l) := by
  subst h
  exact World.ownsRow_nil _ _ _ _

end Go.Proofs.YtkmejkeanmjfbaaGreatDoor
