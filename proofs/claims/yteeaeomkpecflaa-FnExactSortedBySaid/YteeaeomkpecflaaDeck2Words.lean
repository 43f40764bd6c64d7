/- Words on lists of decks in memory: a row of headers of decks, each a row of headers of cards. -/
import Derived.Test.YteeaeomkpecflaaDeckWords
namespace Go.Proofs.Yteeaeomkpecflaa
open Go.RowKit

/-- A deck in memory: where its headers lie, its capacity, its cards, and the blocks among which it lies. -/
structure Dk where
  a : Option Addr
  c : Nat
  hs : List Hd
  lo : Nat
  hi : Nat
def Dk.cell (d : Dk) : Value := .slice d.a d.hs.length d.c
def dheads (ds : List Dk) : List Value := ds.map Dk.cell
def decks (ds : List Dk) : List (List (List Int)) := ds.map fun d => cards d.hs
theorem dheads_length (ds : List Dk) : (dheads ds).length = ds.length := by simp [dheads]
theorem decks_length (ds : List Dk) : (decks ds).length = ds.length := by simp [decks]
theorem dheads_get (ds : List Dk) (k : Nat) (h : k < ds.length) : (dheads ds)[k]? = some (.slice ds[k].a ds[k].hs.length ds[k].c) := by simp [dheads, h, Dk.cell]
theorem dheads_one (ds : List Dk) : ∀ u ∈ dheads ds, u.oneCell' = true := by
  intro u hu
  simp only [dheads, List.mem_map] at hu
  obtain ⟨h, _, rfl⟩ := hu
  rfl
theorem dheads_append (ds es : List Dk) : dheads (ds ++ es) = dheads ds ++ dheads es := by simp [dheads]
theorem decks_append (ds es : List Dk) : decks (ds ++ es) = decks ds ++ decks es := by simp [decks]
theorem decks_take (ds : List Dk) (k : Nat) : decks (ds.take k) = (decks ds).take k := by simp [decks]
theorem decks_at (ds : List Dk) (k : Nat) (h : k < (decks ds).length) : (decks ds)[k] = cards (ds[k]'(by simpa [decks] using h)).hs := by simp [decks]
theorem decks_snoc (ds : List Dk) (k : Nat) (h : k < ds.length) : decks (ds.take (k + 1)) = decks (ds.take k) ++ [cards ds[k].hs] := by
  rw [List.take_succ_eq_append_getElem h, decks_append]
  rfl
theorem decks_same {ds es : List Dk} (h : decks ds = decks es) : ds.length = es.length ∧ ∀ k (h1 : k < ds.length) (h2 : k < es.length), cards ds[k].hs = cards es[k].hs := by
  have hl : ds.length = es.length := by rw [← decks_length ds, h, decks_length]
  refine ⟨hl, fun k h1 h2 => ?_⟩
  have := congrArg (fun l => l[k]?) h
  simpa [decks, h1, h2] using this
/-- How many cards and columns all decks have. -/
def dtot (ds : List Dk) : Nat := (ds.map fun d => d.hs.length + tot d.hs).sum
def dcol (ds : List Dk) : Nat := (ds.map fun d => tot d.hs).sum
theorem dtot_append (ds es : List Dk) : dtot (ds ++ es) = dtot ds + dtot es := by simp [dtot]
theorem dcol_append (ds es : List Dk) : dcol (ds ++ es) = dcol ds + dcol es := by simp [dcol]
theorem dtot_take_succ (ds : List Dk) (k : Nat) (h : k < ds.length) : dtot (ds.take (k + 1)) = dtot (ds.take k) + (ds[k].hs.length + tot ds[k].hs) := by
  rw [List.take_succ_eq_append_getElem h, dtot_append]
  simp [dtot]
theorem dcol_take_succ (ds : List Dk) (k : Nat) (h : k < ds.length) : dcol (ds.take (k + 1)) = dcol (ds.take k) + tot ds[k].hs := by
  rw [List.take_succ_eq_append_getElem h, dcol_append]
  simp [dcol]
theorem dtot_take_le (ds : List Dk) (k : Nat) : dtot (ds.take k) ≤ dtot ds := by
  have := dtot_append (ds.take k) (ds.drop k)
  rw [List.take_append_drop] at this
  omega
theorem dcol_take_le (ds : List Dk) (k : Nat) : dcol (ds.take k) ≤ dcol ds := by
  have := dcol_append (ds.take k) (ds.drop k)
  rw [List.take_append_drop] at this
  omega
theorem dcol_le (ds : List Dk) : dcol ds ≤ dtot ds := by
  induction ds with
  | nil => simp [dcol, dtot]
  | cons d ds ih => simp only [dcol, dtot, List.map_cons, List.sum_cons] at *; omega
theorem dtot_at (ds : List Dk) (k : Nat) (h : k < ds.length) : ds[k].hs.length + tot ds[k].hs ≤ dtot ds := by
  have h1 := dtot_take_succ ds k h
  have h2 := dtot_take_le ds (k + 1)
  omega
theorem dtot_decks {ds es : List Dk} (h : decks ds = decks es) : dtot ds = dtot es := by
  have e : ∀ l : List Dk, dtot l = ((decks l).map fun L => L.length + (L.map List.length).sum).sum := fun l => by
    simp only [dtot, decks, List.map_map]
    congr 1
    apply List.map_congr_left
    intro d _
    simp [tot, cards, Function.comp_def]
  rw [e, e, h]

/-- Decks that are read. -/
structure RdDD (w : World) (B : Nat) (D : Option Addr) (ds : List Dk) : Prop where
  row : Rd w B 1 D ds.length (dheads ds)
  deck : ∀ d ∈ ds, RdD w B d.a d.hs
  cap : ∀ d ∈ ds, d.hs.length ≤ d.c
section
variable {w w' : World} {B B' : Nat} {D : Option Addr} {ds : List Dk}
theorem RdDD.keep (h : RdDD w B D ds) (hk : ∀ b o, b < B → w'.cell? ⟨b, o, none⟩ = w.cell? ⟨b, o, none⟩) : RdDD w' B D ds := ⟨h.row.keep hk, fun x hx => (h.deck x hx).keep hk, h.cap⟩
theorem RdDD.more (h : RdDD w B D ds) (hB : B ≤ B') : RdDD w B' D ds := ⟨h.row.more hB, fun x hx => (h.deck x hx).more hB, h.cap⟩
theorem RdDD.below (h : RdDD w B D ds) (hb : Below B w w') : RdDD w' B D ds := ⟨h.row.below hb, fun x hx => (h.deck x hx).below hb, h.cap⟩
theorem RdDD.bs (h : RdDD w B D ds) (hB : B ≤ w.heap.size) (hb : Below w.heap.size w w') : RdDD w' B D ds := h.below (hb.mono hB)
theorem RdDD.drew (h : RdDD w B D ds) : RdDD w.drew B D ds := ⟨h.row, fun x hx => (h.deck x hx).drew, h.cap⟩
theorem RdDD.alloc (h : RdDD w B D ds) (hB : B ≤ w.heap.size) (o : Obj) : RdDD (w.alloc o) B D ds := ⟨h.row.alloc hB o, fun x hx => (h.deck x hx).alloc hB o, h.cap⟩
theorem RdDD.up (h : RdDD w w.heap.size D ds) (hb : Below w.heap.size w w') : RdDD w' w'.heap.size D ds := ⟨h.row.up hb, fun x hx => (h.deck x hx).up hb, h.cap⟩
theorem RdDD.a1 (h : RdDD w w.heap.size D ds) (o : Obj) : RdDD (w.alloc o) (w.alloc o).heap.size D ds := ⟨h.row.a1 o, fun x hx => (h.deck x hx).a1 o, h.cap⟩
theorem RdDD.nil (w : World) (B : Nat) (D : Option Addr) : RdDD w B D [] := ⟨Rd.nil _ _ _ _, by simp, by simp⟩
theorem RdDD.at_ (h : RdDD w B D ds) {k : Nat} (hk : k < ds.length) : ∃ b off, D = some ⟨b, off, none⟩ ∧ b < B ∧ ∀ j (hj : j < ds.length), w.cell? ⟨b, off + j, none⟩ = some (.slice ds[j].a ds[j].hs.length ds[j].c) := by
  obtain ⟨b, off, hD, hb, hc⟩ := h.row.at_ hk
  exact ⟨b, off, hD, hb, fun j hj => hc _ _ (dheads_get ds j hj)⟩
theorem RdDD.deck_at (h : RdDD w B D ds) {k : Nat} (hk : k < ds.length) : RdD w B ds[k].a ds[k].hs := h.deck _ (List.getElem_mem hk)
theorem RdDD.cap_at (h : RdDD w B D ds) {k : Nat} (hk : k < ds.length) : ds[k].hs.length ≤ ds[k].c := h.cap _ (List.getElem_mem hk)
theorem Chg.rdDD {lo hi : Nat} (c : Chg lo hi w w') (h : RdDD w B D ds) (hB : B ≤ lo) (hs' : B ≤ w.heap.size) : RdDD w' B D ds :=
  h.keep fun b o hb => World.cell?_of_block (c.block b (by omega) (.inl (by omega)))
end

/-- Decks of the call's own: the row of headers, and each deck among blocks of its own. -/
structure ObDD (w : World) (lo hi : Nat) (eE eD eC : TypeId) (D : Option Addr) (c : Nat) (ds : List Dk) : Prop where
  row : Ob w lo hi eE 1 (.slice D ds.length c) ds.length (dheads ds)
  deck : ∀ d ∈ ds, ObD w d.lo d.hi eD eC d.a d.c d.hs ∧ lo ≤ d.lo ∧ d.hi ≤ hi
  apart : ds.Pairwise fun x y => x.hi ≤ y.lo
  far : ∀ d ∈ ds, ∀ k, (Value.slice D ds.length c).ownBlock = some k → k < d.lo ∨ d.hi ≤ k
section
variable {w w' : World} {lo hi lo' hi' : Nat} {eE eD eC : TypeId} {D : Option Addr} {c : Nat} {ds : List Dk}
theorem ObDD.rd (h : ObDD w lo hi eE eD eC D c ds) : RdDD w w.heap.size D ds := ⟨h.row.rd, fun x hx => (h.deck x hx).1.rd, fun x hx => (h.deck x hx).1.cap.1⟩
theorem ObDD.mono (h : ObDD w lo hi eE eD eC D c ds) (h1 : lo' ≤ lo) (h2 : hi ≤ hi') : ObDD w lo' hi' eE eD eC D c ds :=
  ⟨h.row.mono h1 h2, fun x hx => ⟨(h.deck x hx).1, Nat.le_trans h1 (h.deck x hx).2.1, Nat.le_trans (h.deck x hx).2.2 h2⟩, h.apart, h.far⟩
theorem ObDD.bs (h : ObDD w lo hi eE eD eC D c ds) (hb : Below w.heap.size w w') : ObDD w' lo hi eE eD eC D c ds := ⟨h.row.bs hb, fun x hx => ⟨(h.deck x hx).1.bs hb, (h.deck x hx).2⟩, h.apart, h.far⟩
theorem ObDD.chg {l r : Nat} (h : ObDD w lo hi eE eD eC D c ds) (k : Chg l r w w') (ho : hi ≤ l ∨ r ≤ lo) : ObDD w' lo hi eE eD eC D c ds :=
  ⟨h.row.chg k ho, fun x hx => by
    have h1 := h.deck x hx
    exact ⟨h1.1.chg k (by omega), h1.2⟩, h.apart, h.far⟩
theorem ObDD.alloc (h : ObDD w lo hi eE eD eC D c ds) (o : Obj) : ObDD (w.alloc o) lo hi eE eD eC D c ds := h.bs (ba (b0 _) _)
theorem ObDD.cap (h : ObDD w lo hi eE eD eC D c ds) : ds.length ≤ c ∧ c ≤ maxLen := own_cap h.row.1
theorem ObDD.empty (h : Ob w lo hi eE 1 (.slice D 0 c) 0 []) : ObDD w lo hi eE eD eC D c [] := ⟨h, by simp, List.Pairwise.nil, by simp⟩
theorem ObD.kept {row : Option Nat} {hs : List Hd} (h : ObD w lo hi eD eC D c hs) (hg : w.grownBy w' row) (h1 : ∀ k, row = some k → k < lo ∨ hi ≤ k) : ObD w' lo hi eD eC D c hs := by
  have key : ∀ {e : TypeId} {size : Nat} {v : Value} {n : Nat} {xs : List Value}, Ob w lo hi e size v n xs → Ob w' lo hi e size v n xs := by
    intro e size v n xs ho
    refine ho.kept hg ?_
    cases hv : v.ownBlock with
    | none => exact .inl rfl
    | some k =>
      right
      intro he
      have h2 := ho.1.lt k hv
      have h3 := ho.2 k hv
      have h4 := h1 k he.symm
      omega
  exact ⟨key h.row, fun x hx => key (h.card x hx), h.apart⟩
/-- One deck more, laid above all that was there; the row of headers is written by 'append'. -/
theorem ObDD.snoc (h : ObDD w lo hi eE eD eC D c ds) {A : Option Addr} {d l1 h1 : Nat} {hs : List Hd} (hc : ObD w l1 h1 eD eC A d hs) (hl : hi ≤ l1) (hll : lo ≤ l1) {D' : Option Addr} {c' : Nat}
    (hrow : w'.ownsRow lo eE 1 (.slice D' (ds.length + 1) c') (ds.length + 1) (dheads ds ++ [.slice A hs.length d])) (hg : w.grownBy w' (Value.slice D ds.length c).ownBlock) (hhi : hi ≤ w.heap.size) (hh1 : h1 ≤ w.heap.size)
    (hD : D' = D ∨ ∀ k, (Value.slice D' (ds.length + 1) c').ownBlock = some k → w.heap.size ≤ k) (_hne : eE ≠ eD) (_hne' : eE ≠ eC) : ObDD w' lo w'.heap.size eE eD eC D' c' (ds ++ [⟨A, d, hs, l1, h1⟩]) := by
  have hz := hg.size
  have hrb : ∀ k, (Value.slice D ds.length c).ownBlock = some k → k < hi := h.row.2
  have hfar : ∀ k, (Value.slice D' (ds.length + 1) c').ownBlock = some k → (Value.slice D ds.length c).ownBlock = some k ∨ w.heap.size ≤ k := by
    intro k hk
    rcases hD with rfl | hD
    · left
      rw [← hk]
      cases D' <;> rfl
    · exact .inr (hD k hk)
  refine ⟨?_, ?_, ?_, ?_⟩
  · rw [dheads_append, List.length_append]
    exact Ob.of hrow
  · intro y hy
    rcases List.mem_append.1 hy with hy | hy
    · have h2 := h.deck y hy
      exact ⟨h2.1.kept hg (fun k hk => h.far y hy k hk), h2.2.1, by omega⟩
    · rw [List.mem_singleton] at hy
      subst hy
      exact ⟨hc.kept hg (fun k hk => .inl (by have := hrb k hk; omega)), hll, by simp only; omega⟩
  · refine List.pairwise_append.2 ⟨h.apart, List.pairwise_singleton _ _, ?_⟩
    intro x hx y hy
    rw [List.mem_singleton] at hy
    subst hy
    have := (h.deck x hx).2.2
    simp only
    omega
  · intro y hy k hk
    rw [List.length_append, List.length_singleton] at hk
    rcases List.mem_append.1 hy with hy | hy
    · rcases hfar k hk with h2 | h2
      · exact h.far y hy k h2
      · have := (h.deck y hy).2.2
        omega
    · rw [List.mem_singleton] at hy
      subst hy
      rcases hfar k hk with h2 | h2
      · have := hrb k h2
        left
        simp only
        omega
      · right
        simp only
        omega
end

/-- Marks on decks. -/
def markDD (k : Int) : List Dk → List Dk
  | [] => []
  | d :: ds => ⟨d.a, d.c, markD k d.hs, d.lo, d.hi⟩ :: markDD (k + (tot d.hs : Int)) ds
theorem markDD_length (k : Int) (ds : List Dk) : (markDD k ds).length = ds.length := by
  induction ds generalizing k with
  | nil => rfl
  | cons d ds ih => simp [markDD, ih]
theorem markDD_append (k : Int) (ds es : List Dk) : markDD k (ds ++ es) = markDD k ds ++ markDD (k + (dcol ds : Int)) es := by
  induction ds generalizing k with
  | nil => simp [markDD, dcol]
  | cons d ds ih =>
    simp only [List.cons_append, markDD, ih, dcol, List.map_cons, List.sum_cons]
    rw [show k + (tot d.hs : Int) + ((ds.map fun d => tot d.hs).sum : Int) = k + ((tot d.hs + (ds.map fun d => tot d.hs).sum : Nat) : Int) by omega]
theorem markDD_get (k : Int) (ds : List Dk) (j : Nat) (hj : j < ds.length) : (markDD k ds)[j]'(by rw [markDD_length]; exact hj) = ⟨ds[j].a, ds[j].c, markD (k + (dcol (ds.take j) : Int)) ds[j].hs, ds[j].lo, ds[j].hi⟩ := by
  induction ds generalizing k j with
  | nil => simp at hj
  | cons d ds ih =>
    cases j with
    | zero => simp [markDD, dcol]
    | succ j =>
      simp only [markDD, List.getElem_cons_succ, List.take_succ_cons]
      rw [ih]
      simp only [dcol, List.map_cons, List.sum_cons]
      rw [show k + (tot d.hs : Int) + (((ds.take j).map fun d => tot d.hs).sum : Int) = k + ((tot d.hs + ((ds.take j).map fun d => tot d.hs).sum : Nat) : Int) by omega]
def markToD (k : Int) (j : Nat) (ds : List Dk) : List Dk := markDD k (ds.take j) ++ ds.drop j
theorem markToD_zero (k : Int) (ds : List Dk) : markToD k 0 ds = ds := by simp [markToD, markDD]
theorem markToD_all (k : Int) (ds : List Dk) : markToD k ds.length ds = markDD k ds := by simp [markToD]
theorem markToD_length (k : Int) (j : Nat) (ds : List Dk) : (markToD k j ds).length = ds.length := by
  simp only [markToD, List.length_append, markDD_length, List.length_take, List.length_drop]
  omega
theorem markToD_at (k : Int) (j : Nat) (ds : List Dk) (hj : j < ds.length) : (markToD k j ds)[j]'(by rw [markToD_length]; exact hj) = ds[j] := by
  unfold markToD
  rw [List.getElem_append_right (by rw [markDD_length, List.length_take]; omega)]
  simp only [markDD_length, List.length_take, Nat.min_eq_left (Nat.le_of_lt hj), Nat.sub_self, List.getElem_drop, Nat.add_zero]
theorem markToD_succ (k : Int) (j : Nat) (ds : List Dk) (hj : j < ds.length) : (markToD k j ds).set j ⟨ds[j].a, ds[j].c, markD (k + (dcol (ds.take j) : Int)) ds[j].hs, ds[j].lo, ds[j].hi⟩ = markToD k (j + 1) ds := by
  unfold markToD
  rw [List.set_append_right _ _ (by rw [markDD_length, List.length_take]; omega), List.take_succ_eq_append_getElem hj, markDD_append, List.append_assoc]
  congr 1
  simp only [markDD_length, List.length_take, Nat.min_eq_left (Nat.le_of_lt hj), Nat.sub_self]
  rw [List.drop_eq_getElem_cons hj, List.set_cons_zero]
  rfl
/-- A deck of the list is written anew. -/
theorem ObDD.mark {w w' : World} {lo hi : Nat} {eE eD eC : TypeId} {D : Option Addr} {c : Nat} {ds : List Dk} (h : ObDD w lo hi eE eD eC D c ds) {j : Nat} (hj : j < ds.length) {gs : List Hd} (hl : gs.length = ds[j].hs.length)
    (ho : ObD w' ds[j].lo ds[j].hi eD eC ds[j].a ds[j].c gs) (hg : Chg ds[j].lo ds[j].hi w w') : ObDD w' lo hi eE eD eC D c (ds.set j ⟨ds[j].a, ds[j].c, gs, ds[j].lo, ds[j].hi⟩) := by
  have hheads : dheads (ds.set j ⟨ds[j].a, ds[j].c, gs, ds[j].lo, ds[j].hi⟩) = dheads ds := by
    apply List.ext_getElem?
    intro k
    by_cases hk : k < ds.length
    · rw [dheads_get _ _ (by simpa using hk), dheads_get _ _ hk]
      by_cases e : j = k
      · subst e
        simp [hl]
      · simp [e]
    · rw [List.getElem?_eq_none (by rw [dheads_length, List.length_set]; omega), List.getElem?_eq_none (by rw [dheads_length]; omega)]
  have hlohi : ∀ k (hk : k < ds.length), ((ds.set j ⟨ds[j].a, ds[j].c, gs, ds[j].lo, ds[j].hi⟩)[k]'(by simpa using hk)).lo = ds[k].lo ∧ ((ds.set j ⟨ds[j].a, ds[j].c, gs, ds[j].lo, ds[j].hi⟩)[k]'(by simpa using hk)).hi = ds[k].hi := by
    intro k hk
    by_cases e : j = k
    · subst e
      simp
    · simp [e]
  refine ⟨?_, ?_, ?_, ?_⟩
  · rw [hheads, List.length_set]
    have hr := h.row
    have hf := h.far _ (List.getElem_mem hj)
    refine ⟨?_, hr.2⟩
    rcases hr.1.2 with hn | ⟨g, cap, cur, hv, hg', hgg, rest⟩
    · exact ⟨hr.1.1, .inl hn⟩
    · refine ⟨hr.1.1, .inr ⟨g, cap, cur, hv, hg', ?_, rest⟩⟩
      rw [hg.block g (Array.getElem?_eq_some_iff.1 hgg).1 (hf g (by rw [hv]; rfl))]
      exact hgg
  · intro y hy
    obtain ⟨k, hk, rfl⟩ := List.mem_iff_getElem.1 hy
    simp only [List.length_set] at hk
    have hdk := h.deck _ (List.getElem_mem hk)
    have hdj := h.deck _ (List.getElem_mem hj)
    by_cases e : j = k
    · subst e
      simp only [List.getElem_set_self]
      exact ⟨ho, hdk.2⟩
    · simp only [List.getElem_set_ne e]
      refine ⟨hdk.1.chg hg ?_, hdk.2⟩
      rcases Nat.lt_or_gt_of_ne e with hlt | hlt
      · exact .inr (List.pairwise_iff_getElem.1 h.apart j k hj hk hlt)
      · exact .inl (List.pairwise_iff_getElem.1 h.apart k j hk hj hlt)
  · refine List.pairwise_iff_getElem.2 ?_
    intro p q hp hq hpq
    simp only [List.length_set] at hp hq
    rw [(hlohi p hp).2, (hlohi q hq).1]
    exact List.pairwise_iff_getElem.1 h.apart p q hp hq hpq
  · intro y hy k hk
    obtain ⟨p, hp, rfl⟩ := List.mem_iff_getElem.1 hy
    simp only [List.length_set] at hp hk
    rw [(hlohi p hp).1, (hlohi p hp).2]
    exact h.far _ (List.getElem_mem hp) k hk
end Go.Proofs.Yteeaeomkpecflaa
