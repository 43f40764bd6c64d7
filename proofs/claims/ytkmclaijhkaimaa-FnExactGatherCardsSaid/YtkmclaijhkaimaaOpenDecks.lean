/- Lists of decks opened to readings. No function of the program in sight. -/
import Derived.Test.YtkmclaijhkaimaaOpenDeck
namespace Go.Proofs.Ytkmclaijhkaimaa
open Go.RowKit Go.ChangeShapes Go.WideShapes Go.ChangeAt Go.Deep Go.Joins

section
variable {H : Type} {enc : TypeId × Value → H} {P : Program} {w : World}

/-- A slice of slices of cards comes in. -/
theorem in_decks_raw {tt t e ts te : TypeId} {f0 : Field} {v : Value} {d : DataW H} {p : List MemPlace} {fuel : Nat} (htt : P.underlying tt = some (.slice t)) (hCt : P.cellsOf t = 1) (ht : P.underlying t = some (.slice e)) (he : P.underlying e = some (.struct #[f0])) (hone : oneCellFields P #[f0] = true) (hC : P.cellsOf e = 1)
    (e0 : f0.type = ts) (hs : P.underlying ts = some (.slice te)) (hi : P.underlying te = some (.int .i64)) (hc1 : P.cellsOf te = 1) (hf : DataW.trod enc P w 0 (fun _ => true) true fuel tt [v] = some (d, p)) :
    ∃ D c gs, v = .slice D gs.length c ∧ gs.length ≤ c ∧ c ≤ maxLen ∧ RdDD w w.heap.size D gs ∧ ∀ d ∈ gs, d.c ≤ maxLen ∧ ∀ h ∈ d.hs, h.c ≤ maxLen ∧ ∀ z ∈ h.xs, I64 z := by
  rcases open_slice htt hf with ⟨hcs, _⟩ | ⟨a, len', cap', m, n, D, Pl, hcs, _, hl, hm, hmm, _, hi'⟩
  · simp only [List.cons.injEq, and_true] at hcs
    rw [hcs]
    exact ⟨none, 0, [], rfl, Nat.le_refl _, Nat.zero_le _, RdDD.nil _ _ _, by simp⟩
  · simp only [List.cons.injEq, and_true] at hcs
    rw [hcs]
    simp only [if_true] at hmm
    rw [hCt] at hi'
    have key : ∀ i, i < len' → ∃ h : Dk, w.cell? (a.add (i * 1)) = some (.slice h.a h.hs.length h.c) ∧ h.hs.length ≤ h.c ∧ h.c ≤ maxLen ∧ RdD w w.heap.size h.a h.hs ∧ ∀ x ∈ h.hs, x.c ≤ maxLen ∧ ∀ z ∈ x.xs, I64 z := by
      intro i hil
      obtain ⟨cs', hc', ht'⟩ := hi' i (by omega)
      obtain ⟨_, hcl, hat⟩ := World.cells?_some hc'
      match cs', hcl with
      | [x0], _ =>
        obtain ⟨A, c, zs, rfl, h1, h2, h3, h4⟩ := in_deck_raw ht he hone hC e0 hs hi hc1 ht'
        have c0 := hat 0 (by omega)
        rw [Go.Deep.add_add] at c0
        exact ⟨⟨A, c, zs, 0, 0⟩, c0, h1, h2, h3, h4⟩
    obtain ⟨g, hg⟩ : ∃ g : Nat → Dk, ∀ i, i < len' → w.cell? (a.add (i * 1)) = some (.slice (g i).a (g i).hs.length (g i).c) ∧ (g i).hs.length ≤ (g i).c ∧ (g i).c ≤ maxLen ∧ RdD w w.heap.size (g i).a (g i).hs ∧ ∀ x ∈ (g i).hs, x.c ≤ maxLen ∧ ∀ z ∈ x.xs, I64 z :=
      ⟨fun i => if h : i < len' then Classical.choose (key i h) else ⟨none, 0, [], 0, 0⟩, fun i h => by
        simp only [dif_pos h]
        exact Classical.choose_spec (key i h)⟩
    have hll : ((List.range len').map g).length = len' := by simp
    have hgi : ∀ i (h : i < ((List.range len').map g).length), ((List.range len').map g)[i] = g i := by
      intro i h
      simp
    refine ⟨some a, cap', (List.range len').map g, by rw [hll], by omega, hm, ⟨⟨by rw [dheads_length, Nat.mul_one], fun hn => ?_⟩, ?_, ?_⟩, fun h hh => ?_⟩
    · rw [hll] at hn
      obtain ⟨b, off, spot⟩ := a
      have hc0 := (hg 0 hn).1
      have hspot : spot = none := by simpa [Addr.add] using World.cell?_spot hc0
      subst hspot
      refine ⟨b, off, rfl, by simpa [Addr.add] using World.block_lt_of_cell? _ _ hc0, fun j u hu => ?_⟩
      have hj : j < len' := by
        have := (List.getElem?_eq_some_iff.1 hu).1
        rw [dheads_length, hll] at this
        exact this
      rw [dheads_get _ _ (by rw [hll]; exact hj), hgi] at hu
      injection hu with hu
      subst hu
      have := (hg j hj).1
      rwa [Go.WideShapes.add_plain, Nat.mul_one] at this
    · intro h hh
      obtain ⟨i, hi', rfl⟩ := List.mem_map.1 hh
      exact (hg i (List.mem_range.1 hi')).2.2.2.1
    · intro h hh
      obtain ⟨i, hi', rfl⟩ := List.mem_map.1 hh
      exact (hg i (List.mem_range.1 hi')).2.1
    · obtain ⟨i, hi', rfl⟩ := List.mem_map.1 hh
      exact ⟨(hg i (List.mem_range.1 hi')).2.2.1, (hg i (List.mem_range.1 hi')).2.2.2.2⟩

theorem in_decks {tt t e ts te : TypeId} {f0 : Field} {v : Value} {d : DataW H} {p : List MemPlace} {r : Reach} {b0 : Nat} (htt : P.underlying tt = some (.slice t)) (hCt : P.cellsOf t = 1) (ht : P.underlying t = some (.slice e)) (he : P.underlying e = some (.struct #[f0])) (hone : oneCellFields P #[f0] = true) (hC : P.cellsOf e = 1)
    (e0 : f0.type = ts) (hs : P.underlying ts = some (.slice te)) (hi : P.underlying te = some (.int .i64)) (hc1 : P.cellsOf te = 1) (hv : Value.okWide P w r b0 tt v) (h : DataW.Trod enc P w 0 (fun _ => true) true tt v d p) :
    ∃ D c gs, v = .slice D gs.length c ∧ gs.length ≤ c ∧ c ≤ maxLen ∧ RdDD w w.heap.size D gs ∧ ∀ d ∈ gs, d.c ≤ maxLen ∧ ∀ h ∈ d.hs, h.c ≤ maxLen ∧ ∀ z ∈ h.xs, I64 z := by
  obtain ⟨a0, len, cap, rfl⟩ := okWide_slice htt hv
  obtain ⟨fuel, hf⟩ := h
  exact in_decks_raw htt hCt ht he hone hC e0 hs hi hc1 hf
end
end Go.Proofs.Ytkmclaijhkaimaa
