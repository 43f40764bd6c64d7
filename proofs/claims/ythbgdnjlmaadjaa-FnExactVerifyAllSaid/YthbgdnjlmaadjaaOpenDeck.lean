/- Decks opened to readings. No function of the program in sight. -/
import Derived.Test.YthbgdnjlmaadjaaOpen
import Derived.Test.YthbgdnjlmaadjaaDecks2
namespace Go.Proofs.Ythbgdnjlmaadjaa
open Go.RowKit Go.ChangeShapes Go.WideShapes Go.ChangeAt Go.Deep Go.Joins

section
variable {H : Type} {enc : TypeId × Value → H} {P : Program} {w : World}

/-- A slice of cards comes in: structs of one slice of int64. -/
theorem in_deck_raw {t e ts te : TypeId} {f0 : Field} {v : Value} {d : DataW H} {p : List MemPlace} {fuel : Nat} (ht : P.underlying t = some (.slice e)) (he : P.underlying e = some (.struct #[f0])) (hone : oneCellFields P #[f0] = true) (hC : P.cellsOf e = 1)
    (e0 : f0.type = ts) (hs : P.underlying ts = some (.slice te)) (hi : P.underlying te = some (.int .i64)) (hc1 : P.cellsOf te = 1) (hf : DataW.trod enc P w 0 (fun _ => true) true fuel t [v] = some (d, p)) :
    ∃ D c gs, v = .slice D gs.length c ∧ gs.length ≤ c ∧ c ≤ maxLen ∧ RdD w w.heap.size D gs ∧ ∀ h ∈ gs, h.c ≤ maxLen ∧ ∀ z ∈ h.xs, I64 z := by
  rcases open_slice ht hf with ⟨hcs, _⟩ | ⟨a, len', cap', m, n, D, Pl, hcs, _, hl, hm, hmm, _, hi'⟩
  · simp only [List.cons.injEq, and_true] at hcs
    rw [hcs]
    exact ⟨none, 0, [], rfl, Nat.le_refl _, Nat.zero_le _, RdD.nil _ _ _, by simp⟩
  · simp only [List.cons.injEq, and_true] at hcs
    rw [hcs]
    simp only [if_true] at hmm
    rw [hC] at hi'
    obtain ⟨o0, k0⟩ := hone_of hone 0 f0 rfl
    have key : ∀ i, i < len' → ∃ h : Hd, w.cell? (a.add (i * 1)) = some (.slice h.a h.xs.length h.c) ∧ h.xs.length ≤ h.c ∧ h.c ≤ maxLen ∧ Rd w w.heap.size 1 h.a h.xs.length (ints h.xs) ∧ ∀ z ∈ h.xs, I64 z := by
      intro i hil
      obtain ⟨cs', hc', ht'⟩ := hi' i (by omega)
      obtain ⟨ys, n', _, _, hlen, hyl, hg⟩ := DataW.trod_struct he ht'
      obtain ⟨_, hcl, hat⟩ := World.cells?_some hc'
      match cs', hcl, ys, hyl with
      | [x0], _, [y0], _ =>
        have g0 : DataW.trod enc P w 0 (fun _ => true) true n' f0.type [x0] = some y0 := by simpa [o0, k0] using hg 0 f0 rfl
        rw [e0] at g0
        obtain ⟨A, c, zs, rfl, h1, h2, h3, h4⟩ := in_ints hs hi hc1 g0
        have c0 := hat 0 (by omega)
        rw [Go.Deep.add_add] at c0
        exact ⟨⟨A, c, zs⟩, c0, h1, h2, h3, h4⟩
    obtain ⟨g, hg⟩ : ∃ g : Nat → Hd, ∀ i, i < len' → w.cell? (a.add (i * 1)) = some (.slice (g i).a (g i).xs.length (g i).c) ∧ (g i).xs.length ≤ (g i).c ∧ (g i).c ≤ maxLen ∧ Rd w w.heap.size 1 (g i).a (g i).xs.length (ints (g i).xs) ∧ ∀ z ∈ (g i).xs, I64 z :=
      ⟨fun i => if h : i < len' then Classical.choose (key i h) else ⟨none, 0, []⟩, fun i h => by
        simp only [dif_pos h]
        exact Classical.choose_spec (key i h)⟩
    have hll : ((List.range len').map g).length = len' := by simp
    have hgi : ∀ i (h : i < ((List.range len').map g).length), ((List.range len').map g)[i] = g i := by
      intro i h
      simp
    refine ⟨some a, cap', (List.range len').map g, by rw [hll], by omega, hm, ⟨⟨by rw [heads_length, Nat.mul_one], fun hn => ?_⟩, ?_, ?_⟩, fun h hh => ?_⟩
    · rw [hll] at hn
      obtain ⟨b, off, spot⟩ := a
      have hc0 := (hg 0 hn).1
      have hspot : spot = none := by simpa [Addr.add] using World.cell?_spot hc0
      subst hspot
      refine ⟨b, off, rfl, by simpa [Addr.add] using World.block_lt_of_cell? _ _ hc0, fun j u hu => ?_⟩
      have hj : j < len' := by
        have := (List.getElem?_eq_some_iff.1 hu).1
        rw [heads_length, hll] at this
        exact this
      rw [heads_get _ _ (by rw [hll]; exact hj), hgi] at hu
      injection hu with hu
      subst hu
      have := (hg j hj).1
      rwa [Go.WideShapes.add_plain, Nat.mul_one] at this
    · intro h hh
      obtain ⟨i, hi', rfl⟩ := List.mem_map.1 hh
      exact (hg i (List.mem_range.1 hi')).2.2.2.1
    · intro h hh
      obtain ⟨i, hi', rfl⟩ := List.mem_map.1 hh
      exact (hg i (List.mem_range.1 hi')).2.1
    · obtain ⟨i, hi', rfl⟩ := List.mem_map.1 hh
      exact ⟨(hg i (List.mem_range.1 hi')).2.2.1, (hg i (List.mem_range.1 hi')).2.2.2.2⟩

theorem in_deck {t e ts te : TypeId} {f0 : Field} {v : Value} {d : DataW H} {p : List MemPlace} {r : Reach} {b0 : Nat} (ht : P.underlying t = some (.slice e)) (he : P.underlying e = some (.struct #[f0])) (hone : oneCellFields P #[f0] = true) (hC : P.cellsOf e = 1)
    (e0 : f0.type = ts) (hs : P.underlying ts = some (.slice te)) (hi : P.underlying te = some (.int .i64)) (hc1 : P.cellsOf te = 1) (hv : Value.okWide P w r b0 t v) (h : DataW.Trod enc P w 0 (fun _ => true) true t v d p) :
    ∃ D c gs, v = .slice D gs.length c ∧ gs.length ≤ c ∧ c ≤ maxLen ∧ RdD w w.heap.size D gs ∧ ∀ h ∈ gs, h.c ≤ maxLen ∧ ∀ z ∈ h.xs, I64 z := by
  obtain ⟨a0, len, cap, rfl⟩ := okWide_slice ht hv
  obtain ⟨fuel, hf⟩ := h
  exact in_deck_raw ht he hone hC e0 hs hi hc1 hf
end
end Go.Proofs.Ythbgdnjlmaadjaa
