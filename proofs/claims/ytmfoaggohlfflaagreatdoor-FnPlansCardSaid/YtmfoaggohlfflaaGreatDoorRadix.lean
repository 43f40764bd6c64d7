/- Passes that always sort, sort: a deck after them is the deck in the order of its field. No walk here. -/
import Derived.Test.YtmfoaggohlfflaaGreatDoorAlwaysAll
import Derived.Test.YtmfoaggohlfflaaGreatDoorSortKey
namespace Go.Proofs.YtmfoaggohlfflaaGreatDoor
open Go.RowKit

/-- Place of a number in a list without repetition. -/
theorem idxP_at {l : List Int} (hn : l.Nodup) {k : Nat} (hk : k < l.length) {v : Int} (hv : v = l[k]) : idxP (fun z : Int => z == v) l = k := by
  subst hv
  refine idxP_some hk ?_ (by simp)
  rw [List.any_eq_false]
  intro x hx
  obtain ⟨j, hj, rfl⟩ := List.mem_iff_getElem.1 hx
  rw [List.length_take] at hj
  rw [List.getElem_take]
  have := List.pairwise_iff_getElem.1 hn j k (by omega) hk (by omega)
  simpa using this
theorem parts_sorted (f : Int → Int) (ks : List Nat) (hn : ks.Nodup) (I : List Int) (Q : Int → Int → Prop) (hI : I.Pairwise Q) :
    (ks.flatMap fun (k : Nat) => I.filter fun z => f z == (k : Int)).Pairwise fun x y => idxP (fun k : Int => k == f x) (ks.map fun (k : Nat) => (k : Int)) < idxP (fun k : Int => k == f y) (ks.map fun (k : Nat) => (k : Int)) ∨
      (idxP (fun k : Int => k == f x) (ks.map fun (k : Nat) => (k : Int)) = idxP (fun k : Int => k == f y) (ks.map fun (k : Nat) => (k : Int)) ∧ Q x y) := by
  have hn' : (ks.map fun (k : Nat) => (k : Int)).Nodup := List.Pairwise.map _ (fun a b h e => h (by omega)) hn
  rw [List.pairwise_flatMap]
  constructor
  · intro k _
    refine List.Pairwise.imp_of_mem ?_ (hI.sublist List.filter_sublist)
    intro x y hx hy h
    have h1 := (List.mem_filter.1 hx).2
    have h2 := (List.mem_filter.1 hy).2
    simp only [beq_iff_eq] at h1 h2
    right
    rw [h1, h2]
    exact ⟨rfl, h⟩
  · rw [List.pairwise_iff_getElem]
    intro i j hi hj hij x hx y hy
    have h1 := (List.mem_filter.1 hx).2
    have h2 := (List.mem_filter.1 hy).2
    simp only [beq_iff_eq] at h1 h2
    left
    rw [idxP_at hn' (k := i) (by simpa using hi) (by rw [h1]; simp), idxP_at hn' (k := j) (by simpa using hj) (by rw [h2]; simp)]
    omega

/-- The column of a card of a deck. -/
def colI (L : List (List Int)) (c : Nat) (z : Int) : Int := (L.getD z.toNat []).getD c 0
/-- The order behind passes, the last one first. -/
def QL (L : List (List Int)) : List (Int × Int) → Int → Int → Prop
  | [], x, y => x < y
  | p :: r, x, y => placeI (colI L p.1.toNat x) p.2 < placeI (colI L p.1.toNat y) p.2 ∨ (placeI (colI L p.1.toNat x) p.2 = placeI (colI L p.1.toNat y) p.2 ∧ QL L r x y)
theorem QL_asymm (L : List (List Int)) : ∀ (r : List (Int × Int)) {x y : Int}, QL L r x y → QL L r y x → False
  | [], x, y, h, k => by simp only [QL] at h k; omega
  | p :: r, x, y, h, k => by
    simp only [QL] at h k
    rcases h with h | ⟨h, h'⟩
    · rcases k with k | ⟨k, _⟩ <;> omega
    · rcases k with k | ⟨k, k'⟩
      · omega
      · exact QL_asymm L r h' k'
/-- The numbers of the cards behind passes, the last one first. -/
def runI (L : List (List Int)) : List (Int × Int) → List Int
  | [] => rowF (fun k => (k : Int)) L.length
  | p :: r => (ordN p.2).flatMap fun (k : Nat) => (runI L r).filter fun z => pocketI (colI L p.1.toNat z) p.2 == (k : Int)
theorem runI_sorted (L : List (List Int)) : ∀ r, (runI L r).Pairwise (QL L r)
  | [] => by
    rw [List.pairwise_iff_getElem]
    intro i j hi hj hij
    simp only [runI, rowF, List.getElem_map, List.getElem_range, QL]
    omega
  | p :: r => parts_sorted (fun z => pocketI (colI L p.1.toNat z) p.2) (ordN p.2) (ordN_nodup _) (runI L r) _ (runI_sorted L r)
theorem runI_cards (L : List (List Int)) : ∀ r, List.foldr (fun p M => runP M p) L r = (runI L r).map fun z => L.getD z.toNat []
  | [] => by
    apply List.ext_getElem
    · simp [runI, rowF]
    · intro k h1 h2
      simp only [List.foldr_nil] at h1 ⊢
      simp [runI, rowF, List.getD, h1]
  | p :: r => by
    rw [List.foldr_cons, runI_cards L r]
    unfold runP
    rw [gath_sort]
    simp only [runI]
    rw [List.map_flatMap]
    congr 1
    funext k
    unfold pocketL
    rw [List.filter_map]
    rfl
theorem runL_cards (L : List (List Int)) (ps : List (Int × Int)) : runL L ps = (runI L ps.reverse).map fun z => L.getD z.toNat [] := by
  unfold runL
  rw [List.foldl_eq_foldr_reverse]
  exact runI_cards L ps.reverse
theorem runI_perm (L : List (List Int)) : ∀ r : List (Int × Int), (∀ p ∈ r, p.2 = 1 ∨ p.2 = 2) → (runI L r).Perm (rowF (fun k => (k : Int)) L.length)
  | [], _ => .refl _
  | p :: r, h => by
    refine .trans ?_ (runI_perm L r fun q hq => h q (List.mem_cons_of_mem _ hq))
    have h1 := perm_parts (fun z => pocketI (colI L p.1.toNat z) p.2) (ordN p.2) (ordN_nodup _) (runI L r)
    have h2 : ((runI L r).filter fun z => (ordN p.2).any fun (k : Nat) => pocketI (colI L p.1.toNat z) p.2 == (k : Int)) = runI L r :=
      List.filter_eq_self.2 fun z _ => pkt_ord [colI L p.1.toNat z] 0 (h p (List.mem_cons_self ..))
    rw [h2] at h1
    exact h1

/-- Do passes, the last one first, put two columns into their order? -/
def pairR (col x y : Int) : List (Int × Int) → Bool
  | [] => false
  | p :: r => if p.1 < col then pairR col x y r else if col < p.1 then false else if placeI x p.2 = placeI y p.2 then pairR col x y r else decide (placeI x p.2 < placeI y p.2)
theorem pairN_R (ps : List (Int × Int)) (col x y : Int) : ∀ k, k ≤ ps.length → pairN ps col x y k = pairR col x y (ps.take k).reverse
  | 0, _ => by simp [pairN, pairR]
  | k + 1, h => by
    have ih := pairN_R ps col x y k (by omega)
    rw [List.take_succ_eq_append_getElem h, List.reverse_append]
    simp only [pairN, List.reverse_cons, List.reverse_nil, List.nil_append, List.cons_append, pairR]
    rw [show ps.getD k (0, 0) = ps[k] by simp [List.getD, show k < ps.length from h], ih]
theorem QL_first (L : List (List Int)) {i j : Nat} {x y : Int} {c : Nat} (hc : ∀ d, i ≤ d → d < c → colI L d y = colI L d x) : ∀ (r : List (Int × Int)), (∀ p ∈ r, (i : Int) ≤ p.1 ∧ p.1 < (j : Int)) → pairR (c : Int) (colI L c y) (colI L c x) r = true → QL L r y x
  | [], _, h => by simp [pairR] at h
  | p :: r, hp, h => by
    have ih := QL_first L hc r fun q hq => hp q (List.mem_cons_of_mem _ hq)
    have hp0 := hp p (List.mem_cons_self ..)
    simp only [pairR] at h
    simp only [QL]
    split at h
    · rw [hc p.1.toNat (by omega) (by omega)]
      exact .inr ⟨rfl, ih h⟩
    · split at h
      · cases h
      · have e : p.1.toNat = c := by omega
        rw [e]
        split at h
        · rename_i h2
          exact .inr ⟨h2, ih h⟩
        · exact .inl (of_decide_eq_true h)
theorem QL_equal (L : List (List Int)) {i j : Nat} {x y : Int} (hc : ∀ d, i ≤ d → d < j → colI L d x = colI L d y) : ∀ (r : List (Int × Int)), (∀ p ∈ r, (i : Int) ≤ p.1 ∧ p.1 < (j : Int)) → QL L r x y → x < y
  | [], _, h => h
  | p :: r, hp, h => by
    have hp0 := hp p (List.mem_cons_self ..)
    simp only [QL] at h
    rw [hc p.1.toNat (by omega) (by omega)] at h
    rcases h with h | h
    · omega
    · exact QL_equal L hc r (fun q hq => hp q (List.mem_cons_of_mem _ hq)) h.2
theorem cmpN_first : ∀ {xs ys : List Int}, xs.length = ys.length → cmpN xs ys < 0 → ∃ k, ∃ (h1 : k < xs.length) (h2 : k < ys.length), xs.take k = ys.take k ∧ xs[k] < ys[k]
  | [], [], _, h => by simp [cmpN] at h
  | [], _ :: _, h, _ => by simp at h
  | _ :: _, [], h, _ => by simp at h
  | x :: xs, y :: ys, hl, h => by
    simp only [cmpN] at h
    split at h
    · exact ⟨0, by simp, by simp, rfl, by simpa⟩
    · split at h
      · omega
      · obtain ⟨k, h1, h2, h3, h4⟩ := cmpN_first (xs := xs) (ys := ys) (by simpa using hl) h
        exact ⟨k + 1, by simpa using h1, by simpa using h2, by simp [h3]; omega, by simpa using h4⟩
/-- A column with a character is that character's holes. -/
theorem code_of_rank {m : Int} {k : Nat} (h : rankM m = (k : Int)) : ∃ hk : k < 40, m = codeV (charL[k]'hk).toNat := by
  unfold rankM idxP at h
  split at h
  · rename_i ha
    have hl := List.findIdx_lt_length_of_exists (p := fun c : UInt8 => codeV c.toNat == m) (List.any_eq_true.1 ha)
    have hg := List.findIdx_getElem (w := hl)
    simp only [beq_iff_eq] at hg
    have e : charL.findIdx (fun c : UInt8 => codeV c.toNat == m) = k := by omega
    subst e
    exact ⟨hl, hg.symm⟩
  · omega
theorem rankM_inj {a b : Int} (ha : 0 ≤ rankM a) (h : rankM a = rankM b) : a = b := by
  obtain ⟨k, hk⟩ : ∃ k : Nat, rankM a = k := ⟨(rankM a).toNat, by omega⟩
  obtain ⟨h1, e1⟩ := code_of_rank hk
  obtain ⟨h2, e2⟩ := code_of_rank (h.symm.trans hk)
  rw [e1, e2]
theorem part_at {X : List Int} {i j k : Nat} (h : k < j - i) (hj : j ≤ X.length) : ((part X (i : Int) (j : Int)).map rankM)[k]? = some (rankM (X.getD (i + k) 0)) := by
  rw [part_nat, List.getElem?_map, List.getElem?_take, if_pos h, List.getElem?_drop]
  rw [List.getElem?_eq_getElem (show i + k < X.length by omega)]
  simp [List.getD, show i + k < X.length by omega]
theorem alw_in {ps : List (Int × Int)} {i j : Nat} (h : alwB ps (i : Int) (j : Int) = true) : ∀ p ∈ ps, (i : Int) ≤ p.1 ∧ p.1 < (j : Int) := by
  intro p hp
  unfold alwB at h
  rw [Bool.and_eq_true] at h
  have h1 := List.all_eq_true.1 h.1 p hp
  unfold insideB at h1
  simp only [Bool.and_eq_true, decide_eq_true_eq] at h1
  omega
theorem alw_pair {ps : List (Int × Int)} {i j c x y : Nat} (h : alwB ps (i : Int) (j : Int) = true) (h1 : i ≤ c) (h2 : c < j) (hxy : x < y) (hy : y < 40) : pairB ps (c : Int) x y = true := by
  unfold alwB at h
  rw [Bool.and_eq_true] at h
  have a1 := List.all_eq_true.1 h.2 (c - i) (List.mem_range.2 (by omega))
  rw [show (i : Int) + ((c - i : Nat) : Int) = (c : Int) by omega] at a1
  have a2 := List.all_eq_true.1 a1 x (List.mem_range.2 (by omega))
  have a3 := List.all_eq_true.1 a2 y (List.mem_range.2 hy)
  rw [Bool.or_eq_true] at a3
  rcases a3 with a3 | a3
  · have := of_decide_eq_true a3; omega
  · exact a3
/-- Passes that always sort put cards with characters in order. -/
theorem QL_keys {L : List (List Int)} {ps : List (Int × Int)} {i j : Nat} (hok : deckOk L = true) (hij : i < j) (hj : j ≤ deckW L) (hv : haveF L (i : Int) (j : Int) = true) (ha : alwB ps (i : Int) (j : Int) = true) {x y : Nat} (hx : x < L.length) (hy : y < L.length)
    (h : QL L ps.reverse (x : Int) (y : Int)) : Rk (keyZ L (i : Int) (j : Int)) (x : Int) (y : Int) := by
  have hin := alw_in ha
  have hinr : ∀ p ∈ ps.reverse, (i : Int) ≤ p.1 ∧ p.1 < (j : Int) := fun p hp => hin p (List.mem_reverse.1 hp)
  have hlx : j ≤ L[x].length := (part_deck hok hij hj hx).2
  have hly : j ≤ L[y].length := (part_deck hok hij hj hy).2
  have hcx : ∀ c, colI L c (x : Int) = L[x].getD c 0 := fun c => by unfold colI; simp [List.getD, hx]
  have hcy : ∀ c, colI L c (y : Int) = L[y].getD c 0 := fun c => by unfold colI; simp [List.getD, hy]
  have hleg : ∀ (z : Nat) (hz : z < L.length) (hlz : j ≤ L[z].length) (k : Nat), k < j - i → 0 ≤ rankM (L[z].getD (i + k) 0) := by
    intro z hz hlz k hk
    have h1 := haveF_at hv hz
    have h2 := part_at hk hlz
    rw [List.getElem?_map] at h2
    cases h3 : (part L[z] (i : Int) (j : Int))[k]? with
    | none => rw [h3] at h2; simp at h2
    | some m =>
      rw [h3] at h2
      simp only [Option.map_some, Option.some.injEq] at h2
      rw [← h2]
      have := List.all_eq_true.1 h1 m (List.mem_of_getElem? h3)
      simpa [legalM] using this
  obtain ⟨e1, e2⟩ := keyZ_cmp hok hij hj hx hy
  obtain ⟨e3, _⟩ := keyZ_cmp hok hij hj hy hx
  have lx : ((part L[x] (i : Int) (j : Int)).map rankM).length = j - i := by rw [List.length_map]; exact (part_deck hok hij hj hx).1
  have ly : ((part L[y] (i : Int) (j : Int)).map rankM).length = j - i := by rw [List.length_map]; exact (part_deck hok hij hj hy).1
  by_cases h1 : keyZ L (i : Int) (j : Int) (x : Int) < keyZ L (i : Int) (j : Int) (y : Int)
  · exact .inl h1
  · by_cases h2 : keyZ L (i : Int) (j : Int) (y : Int) < keyZ L (i : Int) (j : Int) (x : Int)
    · exfalso
      have h3 := e3.2 h2
      rw [cmpC_at hy hx] at h3
      obtain ⟨k, k1, k2, k3, k4⟩ := cmpN_first (by rw [lx, ly]) h3
      have hk : k < j - i := by rw [← lx]; exact k2
      have r1 := part_at hk hly
      have r2 := part_at hk hlx
      rw [List.getElem?_eq_getElem k1] at r1
      rw [List.getElem?_eq_getElem k2] at r2
      simp only [Option.some.injEq] at r1 r2
      rw [r1, r2] at k4
      have p1 := hleg y hy hly k hk
      have p2 := (rankM_range (L[x].getD (i + k) 0)).2
      obtain ⟨p, hp⟩ : ∃ p : Nat, rankM (L[y].getD (i + k) 0) = p := ⟨(rankM (L[y].getD (i + k) 0)).toNat, by omega⟩
      obtain ⟨q, hq⟩ : ∃ q : Nat, rankM (L[x].getD (i + k) 0) = q := ⟨(rankM (L[x].getD (i + k) 0)).toNat, by omega⟩
      obtain ⟨hp40, ep⟩ := code_of_rank hp
      obtain ⟨hq40, eq⟩ := code_of_rank hq
      have hpair := alw_pair ha (c := i + k) (by omega) (by omega) (x := p) (y := q) (by omega) hq40
      unfold pairB at hpair
      rw [pairN_R _ _ _ _ _ (Nat.le_refl _), List.take_length, char_getD' hp40, char_getD' hq40, ← ep, ← eq, ← hcx, ← hcy] at hpair
      refine QL_asymm L ps.reverse h (QL_first L (i := i) (j := j) (c := i + k) ?_ ps.reverse hinr hpair)
      intro d hd1 hd2
      have g := congrArg (fun l => l[d - i]?) k3
      simp only [List.getElem?_take, if_pos (show d - i < k by omega)] at g
      rw [part_at (show d - i < j - i by omega) hly, part_at (show d - i < j - i by omega) hlx, show i + (d - i) = d by omega] at g
      simp only [Option.some.injEq] at g
      rw [hcx, hcy]
      have g0 := hleg y hy hly (d - i) (by omega)
      rw [show i + (d - i) = d by omega] at g0
      exact rankM_inj g0 g
    · have h3 : keyZ L (i : Int) (j : Int) (x : Int) = keyZ L (i : Int) (j : Int) (y : Int) := by omega
      refine .inr ⟨h3, QL_equal L (i := i) (j := j) ?_ ps.reverse hinr h⟩
      have h4 := e2.2 h3
      rw [cmpC_at hx hy] at h4
      have h5 := (cmpN_zero (by rw [lx, ly])).1 h4
      intro d hd1 hd2
      have g := congrArg (fun l => l[d - i]?) h5
      rw [part_at (show d - i < j - i by omega) hly, part_at (show d - i < j - i by omega) hlx, show i + (d - i) = d by omega] at g
      simp only [Option.some.injEq] at g
      rw [hcx, hcy]
      have g0 := hleg x hx hlx (d - i) (by omega)
      rw [show i + (d - i) = d by omega] at g0
      exact rankM_inj g0 g
/-- A deck after passes that always sort is the deck in the order of its field. -/
theorem runL_sorts {L : List (List Int)} {ps : List (Int × Int)} {i j : Nat} (hok : deckOk L = true) (hij : i < j) (hj : j ≤ deckW L) (hv : haveF L (i : Int) (j : Int) = true) (ha : alwB ps (i : Int) (j : Int) = true) (hm : ∀ p ∈ ps, p.2 = 1 ∨ p.2 = 2) :
    runL L ps = sortedL L (i : Int) (j : Int) := by
  have hp := runI_perm L ps.reverse fun p hp => hm p (List.mem_reverse.1 hp)
  have h1 : runI L ps.reverse = plL (keyZ L (i : Int) (j : Int)) L.length := by
    refine places_unique hp (List.Pairwise.imp_of_mem ?_ (runI_sorted L ps.reverse))
    intro x y hx hy h
    have mx := hp.mem_iff.1 hx
    have my := hp.mem_iff.1 hy
    simp only [rowF, List.mem_map, List.mem_range] at mx my
    obtain ⟨x, hx', rfl⟩ := mx
    obtain ⟨y, hy', rfl⟩ := my
    exact QL_keys hok hij hj hv ha hx' hy' h
  rw [runL_cards, h1]
  rfl
end Go.Proofs.YtmfoaggohlfflaaGreatDoor
