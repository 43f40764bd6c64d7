/- Slices of bytes opened to readings. No function of the program in sight. -/
import Derived.Test.YtkmejkeanmjfbaaOpen
import Derived.Test.YtkmejkeanmjfbaaKeysAll
namespace Go.Proofs.Ytkmejkeanmjfbaa
open Go.RowKit Go.ChangeShapes Go.WideShapes Go.ChangeAt Go.Deep Go.Joins

section
variable {H : Type} {enc : TypeId × Value → H} {P : Program} {w : World}
/-- A slice of bytes comes in. -/
theorem in_bytes_raw {t e : TypeId} {fuel : Nat} {v : Value} {x : DataW H × List MemPlace} (ht : P.underlying t = some (.slice e)) (he : P.underlying e = some (.int .u8)) (hc : P.cellsOf e = 1)
    (h : DataW.trod enc P w 0 (fun _ => true) true fuel t [v] = some x) :
    ∃ A c bs, v = .slice A (List.length bs) c ∧ bs.length ≤ c ∧ c ≤ maxLen ∧ Rd w w.heap.size 1 A bs.length (byts bs) := by
  rcases open_ints ht he hc h with ⟨hcs, _⟩ | ⟨a, len, cap, zs, hcs, _, hl, hm, hz, _, hcell, hw⟩
  · simp only [List.cons.injEq, and_true] at hcs
    subst hcs
    exact ⟨none, 0, [], rfl, Nat.le_refl _, Nat.zero_le _, Rd.nil _ _ _ _⟩
  · simp only [List.cons.injEq, and_true] at hcs
    subst hcs
    simp only [if_true] at hz
    have hll : ((zs.take len).map fun z => UInt8.ofNat z.toNat).length = len := by rw [List.length_map, List.length_take]; omega
    refine ⟨some a, cap, (zs.take len).map fun z => UInt8.ofNat z.toNat, by rw [hll], by omega, hm, ⟨by rw [byts_length, Nat.mul_one], fun hn => ?_⟩⟩
    obtain ⟨b, off, spot⟩ := a
    have h0 := hcell 0 (by omega)
    have hspot : spot = none := by simpa [Addr.add] using World.cell?_spot h0
    subst hspot
    refine ⟨b, off, rfl, by simpa [Addr.add] using World.block_lt_of_cell? _ _ h0, fun j u hu => ?_⟩
    have hj : j < ((zs.take len).map fun z => UInt8.ofNat z.toNat).length := by
      have := (List.getElem?_eq_some_iff.1 hu).1
      rwa [byts_length] at this
    rw [byts_get _ _ hj] at hu
    injection hu with hu
    subst hu
    have hjz : j < zs.length := by omega
    have := hcell j hjz
    rw [Go.WideShapes.add_plain] at this
    rw [this]
    have hwf := hw zs[j] (List.getElem_mem hjz)
    simp [Lit.wf, IntKind.min, IntKind.max, IntKind.signed, IntKind.bits] at hwf
    simp [List.getD, List.getElem?_eq_getElem hjz]
    omega

theorem in_bytes {t e : TypeId} {v : Value} {d : DataW H} {p : List MemPlace} {r : Reach} {b0 : Nat} (ht : P.underlying t = some (.slice e)) (he : P.underlying e = some (.int .u8)) (hc : P.cellsOf e = 1) (hv : Value.okWide P w r b0 t v) (h : DataW.Trod enc P w 0 (fun _ => true) true t v d p) :
    ∃ A c bs, v = .slice A (List.length bs) c ∧ bs.length ≤ c ∧ c ≤ maxLen ∧ Rd w w.heap.size 1 A bs.length (byts bs) := by
  obtain ⟨a0, len, cap, rfl⟩ := okWide_slice ht hv
  obtain ⟨fuel, hf⟩ := h
  exact in_bytes_raw ht he hc hf
end
end Go.Proofs.Ytkmejkeanmjfbaa
