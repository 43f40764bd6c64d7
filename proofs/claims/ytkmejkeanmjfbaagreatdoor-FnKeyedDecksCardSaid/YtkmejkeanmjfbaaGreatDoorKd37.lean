/- Draws of decks: any, bent; a card of a deck is spoilt. -/
import Derived.Test.YtkmejkeanmjfbaaGreatDoorKd25
/-! ### ShDeck -/
namespace Go.Proofs.YtkmejkeanmjfbaaGreatDoor
open Go.RowKit

/-- Cards of at most 40 columns. -/
def LenD (L : List (List Int)) : Prop := ∀ x ∈ L, x.length ≤ 40
theorem LenD.snoc {L : List (List Int)} {x : List Int} (h : LenD L) (hx : x.length ≤ 40) : LenD (L ++ [x]) := by
  intro y hy
  rcases List.mem_append.1 hy with hy | hy
  · exact h y hy
  · rw [List.mem_singleton] at hy
    rw [hy]
    exact hx
theorem LenD.set {hs : List Hd} {k : Nat} {x : Hd} (h : LenD (cards hs)) (hx : x.xs.length ≤ 40) : LenD (cards (hs.set k x)) := by
  intro y hy
  obtain ⟨z, hz, rfl⟩ := List.mem_map.1 hy
  rcases List.mem_or_eq_of_mem_set hz with hz | rfl
  · exact h _ (List.mem_map.2 ⟨z, hz, rfl⟩)
  · exact hx
theorem len_tot {hs : List Hd} (h : LenD (cards hs)) (hl : hs.length ≤ 41) : hs.length + tot hs ≤ 1681 := by
  have : tot hs ≤ hs.length * 40 := tot_le fun x hx => h x.xs (List.mem_map.2 ⟨x, hx, rfl⟩)
  omega

section
variable {w : World} {lo hi : Nat} {eD eC : TypeId} {g c : Nat} {hs : List Hd}
/-- A header is put in a deck's place. -/
theorem ObD.put (h : ObD w lo hi eD eC (some ⟨g, 0, none⟩) c hs) (hne : eC ≠ eD) {k : Nat} (hk : k < hs.length) {N d : Nat} {ys : List Int} {l1 : Nat} (hc : w.ownsRow l1 eC 1 (.slice (some ⟨N, 0, none⟩) ys.length d) ys.length (ints ys)) (hl : hi ≤ N) (hlo : lo ≤ l1) (hhi : hi ≤ w.heap.size) :
    ObD (w.setCell ⟨g, k, none⟩ (.slice (some ⟨N, 0, none⟩) ys.length d)) lo w.heap.size eD eC (some ⟨g, 0, none⟩) c (hs.set k ⟨some ⟨N, 0, none⟩, d, ys⟩) := by
  have hg : g < hi := (ob_form h.row rfl).2.2
  have hN : N < w.heap.size := own_heap hc
  have hheads : heads (hs.set k ⟨some ⟨N, 0, none⟩, d, ys⟩) = (heads hs).set k (.slice (some ⟨N, 0, none⟩) ys.length d) := by
    unfold heads
    rw [List.map_set]
    rfl
  refine ⟨?_, ?_, ?_⟩
  · rw [List.length_set, hheads]
    exact ⟨ownsRow_set h.row.1 k _, fun j hj => by have := h.row.2 j hj; omega⟩
  · intro x hx
    rcases List.mem_or_eq_of_mem_set hx with hx | rfl
    · have hcx := h.card x hx
      refine ⟨ownsRow_setCell_other hcx.1 ?_ _, fun j hj => by have := hcx.2 j hj; omega⟩
      rcases own_ne hcx.1 h.row.1 hne with h0 | h0
      · rw [h0]; simp
      · exact h0
    · refine ⟨ownsRow_setCell_other (own_base hc hlo) (by simp only [Value.ownBlock]; intro e; injection e with e; omega) _, fun j hj => ?_⟩
      simp only [Value.ownBlock, Option.some.injEq] at hj
      omega
  · refine List.pairwise_iff_getElem.2 fun i j hi' hj' hij => ?_
    rw [List.length_set] at hi' hj'
    intro g' e1 e2
    rw [List.getElem_set] at e1 e2
    have far : ∀ m (hm : m < hs.length), hs[m].a ≠ some ⟨N, 0, none⟩ := fun m hm e => by
      have := (ob_form (h.card _ (List.getElem_mem hm)) e).2.2
      simp only at this
      omega
    split at e1
    · split at e2
      · omega
      · injection e1 with e1
        rw [← e1] at e2
        exact far _ _ e2
    · split at e2
      · injection e2 with e2
        rw [← e2] at e1
        exact far _ _ e1
      · exact List.pairwise_iff_getElem.1 h.apart i j hi' hj' hij g' e1 e2
end

/-- A card of a deck is spoilt. -/
def SpDP (p K lo g c n : Nat) (w : World) (e : Ending) (w' : World) : Prop := ∃ gs : List Hd, e = .returned (.tuple #[]) ∧ gs.length = n ∧ LenD (cards gs) ∧ ObD w' lo w'.heap.size 26 2 (some ⟨g, 0, none⟩) c gs ∧ SrcK w' p (K + 8) ∧ Chs p g lo w w'

set_option maxRecDepth 20000 in
set_option maxHeartbeats 4000000 in
theorem l02SpoilD_any (p K lo hi g c k : Nat) (gs : List Hd) (w : World) (h : SrcK w p K) (hK : K < 899990) (hob : ObD w lo hi 26 2 (some ⟨g, 0, none⟩) c gs) (hk : k < gs.length) (hL : LenD (cards gs)) (hhi : hi ≤ w.heap.size) (hpl : p < lo) (hlo : lo ≤ w.heap.size) :
    Calls Tryz.prog 80 #[.pointer (some ⟨p, 0, none⟩), .pointer (some ⟨g, k, none⟩)] w (SpDP p K lo g c gs.length w) := by
  obtain ⟨i0, hi0, hz0, hz1, hz2⟩ := info_parts info_i64
  obtain ⟨hgl, hgh⟩ := (ob_form hob.row rfl).2
  simp only at hgl hgh
  have hc : w.cell? ⟨g, k, none⟩ = some (.slice gs[k].a gs[k].xs.length gs[k].c) := by
    have h2 := own_cell hob.row.1 k (by rw [heads_length]; exact hk)
    have h3 := heads_get gs k hk
    rw [List.getElem?_eq_getElem (by rw [heads_length]; exact hk)] at h3
    injection h3 with h3
    rw [h3] at h2
    exact h2
  have hf : w.frozen? ⟨g, k, none⟩ = false := hob.row.1.frozenAt k
  have hblt : g < w.heap.size := by omega
  have hcd := hob.card _ (List.getElem_mem hk)
  have hn : gs[k].xs.length ≤ 40 := hL _ (List.mem_map.2 ⟨gs[k], List.getElem_mem hk, rfl⟩)
  obtain ⟨A, hA⟩ : ∃ A, A = gs[k].a := ⟨_, rfl⟩
  obtain ⟨n, hnn⟩ : ∃ n, n = gs[k].xs.length := ⟨_, rfl⟩
  obtain ⟨d, hd⟩ : ∃ d, d = gs[k].c := ⟨_, rfl⟩
  rw [← hA, ← hnn, ← hd] at hc
  rw [← hnn] at hn
  have hob0 := hob
  have HA := Lib.hid hA
  have HNN := Lib.hid hnn
  have HD := Lib.hid hd
  clear hA hnn hd hcd
  go_enter Tryz.func80, Tryz.ntmps80
  go_wp2_with fail
  refine (pick_any p K 3 _ h (by omega) (by omega)).mono ?_
  rintro e w1 ⟨x, hx, rfl, hs1, hc1⟩
  have hx3 : x < 3 := by omega
  have c1 := hc1.cell hc (.inr (by omega))
  have f1 := hc1.froz hf hblt (.inr (by omega))
  have ob1 := hob.chg hc1 (.inr (by omega))
  have z1 := hc1.size
  have HC1 := Lib.hid (Chs.of (b := g) (lo := lo) hc1)
  clear hx hob hob0 h hc hf hc1
  by_cases x0 : x = 0
  · subst x0
    have c1a := cell_alloc c1 (.cells #[] 2)
    have f1a := froz_alloc f1 (by omega) (.cells #[] 2)
    have OB1 := Lib.hid ob1
    clear ob1
    go_wp2
    go_end0
    refine ⟨gs.set k ⟨some ⟨w1.heap.size, 0, none⟩, 0, []⟩, rfl, List.length_set, hL.set (by simp), ?_, ?_, ?_⟩
    · refine ((OB1.out.alloc _).put (by decide) hk (l1 := w1.heap.size) (ys := []) (own_lit w1 #[] 0 rfl (Nat.le_refl _) (by omega) rfl) (by omega) (by omega) (by simp; omega)).mono (Nat.le_refl _) (by simp)
    · exact ((hs1.later (ba (b0 _) _)).set _ _ (by omega)).more (by omega)
    · exact (HC1.out.below (ba (b0 _) _)).set _ _ _ (.inr rfl)
  · have n0 : ((x : Int) == 0) = false := beq_f (by omega)
    by_cases x1 : x = 1
    · have n1 : ((x : Int) == 1) = true := beq_t (by omega)
      clear x0 x1
      go_wp2_with fail
      refine (pick_any p (K + 2) 2 _ hs1 (by omega) (by omega)).mono ?_
      rintro e w2 ⟨y, hy, rfl, hs2, hc2⟩
      have hy2 : y < 2 := by omega
      have hb2 : g < w2.heap.size := by have := hc2.size; omega
      have c2 := hc2.cell c1 (.inr (by omega))
      have f2 := hc2.froz f1 (by omega) (.inr (by omega))
      have z2 := hc2.size
      have OB2 := Lib.hid (ob1.chg hc2 (.inr (by omega)))
      have HC2 := Lib.hid (HC1.out.trans (Chs.of hc2))
      clear hy hc2 hs1 c1 f1 ob1
      go_wp2_with (at_make; refine wpList_make_full _ rfl _ _ 24 rfl w2.heap.size 2 i0 (.int .i64 0) 1 Tryz.underlying24 hi0 hz0 hz1 _ _ _ _ (20 + y) rfl rfl (by omega) (by omega) (by rw [hz2]; omega) (by unfold maxLen; omega) (Nat.le_refl _) ?_; intro w3 hown3 hgrow3; have c3 := (World.cell?_of_block (hgrow3.block g hb2 (by simp))).trans c2; have f3 := (World.frozen?_of_block (hgrow3.block g hb2 (by simp))).trans f2)
      rw [zeros_ints] at hown3
      have z3 := hgrow3.size
      have B3 : Below w2.heap.size w2 w3 := (Below.refl _ _).grown hgrow3 (Nat.le_refl _) (by simp)
      go_end0
      refine ⟨gs.set k ⟨some ⟨w2.heap.size, 0, none⟩, 20 + y, List.replicate (20 + y) 0⟩, rfl, List.length_set, hL.set (by simp; omega), ?_, ?_, ?_⟩
      · have := ((OB2.out.bs B3).put (by decide) hk (l1 := w2.heap.size) (N := w2.heap.size) (d := 20 + y) (ys := List.replicate (20 + y) 0) (by simpa using hown3) (by omega) (by omega) (by omega)).mono (Nat.le_refl _) (show _ ≤ (w3.setCell ⟨g, k, none⟩ (.slice (some ⟨w2.heap.size, 0, none⟩) (20 + y) (20 + y))).heap.size by simp)
        simpa using this
      · exact ((hs2.later B3).set _ _ (by omega)).more (by omega)
      · exact (HC2.out.below B3).set _ _ _ (.inr rfl)
    · have n1 : ((x : Int) == 1) = false := beq_f (by omega)
      have n2 : ((x : Int) == 2) = true := beq_t (by omega)
      clear x0 x1
      by_cases hn0 : 0 < n
      · have i1 : (0 : Int) < (n : Int) := by omega
        have hcard := ob1.card _ (List.getElem_mem hk)
        obtain ⟨g', hA, hg1, hg2⟩ := own_at hcard.1 (k := 0) (by have := HNN.out; omega)
        have hA' : A = some ⟨g', 0, none⟩ := by rw [HA.out]; exact hA
        subst hA'
        have hg3 : g' < hi := hcard.2 g' (by rw [hA]; rfl)
        have hlt1 := hs1.lt
        have hb1 : g < w1.heap.size := by omega
        have OB1 := Lib.hid ob1
        have c10 := Lib.hid c1
        have HG := Lib.hid hA
        have HNE := Lib.hid (show ¬ g' = g from fun e => by
          rcases own_ne hcard.1 ob1.row.1 (by decide) with h0 | h0
          · rw [hA] at h0; simp [Value.ownBlock] at h0
          · rw [hA, e] at h0; exact h0 rfl)
        clear ob1 hcard hA
        have HCELL := Lib.hid (show ∀ (w3 : World) (q : Nat), q < n → ObD w3 lo hi 26 2 (some ⟨g, 0, none⟩) c gs → (∃ v, w3.cell? ⟨g', q, none⟩ = some v) ∧ w3.frozen? ⟨g', q, none⟩ = false from fun w3 q hq ho => by
          have hcd := (ho.card _ (List.getElem_mem hk)).1
          rw [HG.out] at hcd
          exact ⟨⟨_, own_cell hcd q (by rw [ints_length]; have := HNN.out; omega)⟩, hcd.frozenAt q⟩)
        go_wp2_with fail
        go_region_held3 (fun w' => w'.cell? ⟨g, k, none⟩ = some (.slice (some ⟨g', 0, none⟩) n d)) (first | exact c1 | exact cell_alloc c1 _ | exact set_far c1 (HNE.out) | go_keep)
          (first
            | (go_at_call 29; refine (pick_any p (K + 2) (n : Int) _ ?_ (by omega) (by omega)).mono ?_; (first | exact hs1 | exact hs1.drew | exact hs1.later (ba (b0 _) _) | exact (hs1.later (ba (b0 _) _)).drew); rintro e w2 ⟨q, hq, rfl, hs2, hc2⟩; have hqn : q < n := (by omega); have cx : Chg p (p + 1) w1 w2 := (by first | exact (Chg.refl _ _ _).drew.trans hc2 | exact ((Chg.refl _ _ _).then (ba (b0 w1) _) (Nat.le_refl _)).trans hc2 | exact (((Chg.refl _ _ _).then (ba (b0 w1) _) (Nat.le_refl _)).drew).trans hc2 | exact hc2); replace c1 := cx.cell c1 (.inr (by omega)))
            | (go_at_call 103; refine (among_any p (K + 2 + 2) _ 5 5 [-1, 0, 4095, 4096, -9223372036854775808] _ ?_ (by omega) rfl (by omega) (by omega) ?_ ?_).mono ?_; (first | exact hs2 | exact hs2.drew | exact hs2.later (ba (b0 _) _) | exact (hs2.later (ba (b0 _) _)).drew); (first | exact Rd.own (own_lit w2 #[.int .i64 (-1), .int .i64 0, .int .i64 4095, .int .i64 4096, .int .i64 (-9223372036854775808)] 5 rfl (Nat.le_refl _) (by omega) rfl) | exact ((Ob.of (own_lit w1 #[.int .i64 (-1), .int .i64 0, .int .i64 4095, .int .i64 4096, .int .i64 (-9223372036854775808)] 5 rfl (Nat.le_refl _) (by omega) rfl)).chg (⟨hc2.os, hc2.tape, hc2.output, hc2.size, hc2.block⟩ : Chg p (p + 1) (w1.alloc (.cells #[.int .i64 (-1), .int .i64 0, .int .i64 4095, .int .i64 4096, .int .i64 (-9223372036854775808)] 2)) w2) (.inr (by omega))).rd); (intro gg oo hgg; injection hgg with hgg; injection hgg with hgg; have := cx.size; omega); rintro e w3 ⟨z, _, rfl, hs3, hc3⟩; have cy : Chg p (p + 1) w1 w3 := (by first | exact cx.trans hc3 | exact (cx.then (ba (b0 w2) _) cx.size).trans hc3 | exact ((cx.then (ba (b0 w2) _) cx.size).drew).trans hc3); replace c1 := cy.cell c10.out (.inr (by omega)); have ob3 := OB1.out.chg cy (.inr (by omega)); obtain ⟨⟨v3, d1⟩, e1⟩ := HCELL.out w3 q hqn ob3))
        all_goals
          have hpg : p < g' := by omega
          have hcd := ob3.card _ (List.getElem_mem hk)
          go_wp2
          go_end0
          refine ⟨gs.set k ⟨gs[k].a, gs[k].c, gs[k].xs.set q z⟩, rfl, List.length_set, hL.set (by simp only [List.length_set]; have := HNN.out; omega), ?_, ?_, ?_⟩
          · have h5 := hcd.1
            rw [HG.out] at h5
            have hst := h5.stored q (.int .i64 z)
            refine (ob3.mark (by decide) hk (ys := gs[k].xs.set q z) (by rw [List.length_set]) (by rw [HG.out, ← ints_set']; exact hst.1) (by rw [HG.out]; exact hst.2)).mono (Nat.le_refl _) ?_
            have := cy.size
            simp
            omega
          · exact (hs3.set _ _ hpg).more (by omega)
          · exact (HC1.out.trans (Chs.of cy)).set _ _ _ (.inl hg1)
      · have i1 : ¬ (0 : Int) < (n : Int) := by omega
        go_wp2
        go_end0
        exact ⟨gs, rfl, rfl, hL, ob1.mono (Nat.le_refl _) (by omega), hs1.more (by omega), HC1.out⟩
end Go.Proofs.YtkmejkeanmjfbaaGreatDoor
