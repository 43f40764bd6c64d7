/- The row's last step for a law of bool true whose call leaves old memory alone; arguments opened to readings. No function of the program in sight. Slices of bytes opened to readings. No function of the program in sight. -/
import Derived.Test.YtkmejkeanmjfbaaGreatDoorKd1
import Derived.ProofKit
import Derived.Deep.Slices
import Derived.Lib.SmallJoins
import Derived.Test.YtkmejkeanmjfbaaGreatDoorKd10
/-! ### Open -/
namespace Go.Proofs.YtkmejkeanmjfbaaGreatDoor
open Go.RowKit Go.ChangeShapes Go.WideShapes Go.ChangeAt Go.Deep Go.Joins

section
variable {H : Type} {enc : TypeId × Value → H} {P : Program}

theorem trodAll_below (hl : laidOutB P = true) {W W' : World} (hb : Below W.heap.size W W') :
    ∀ {ts : List TypeId} {vs : List Value} {ds : List (DataW H)} {ps : List MemPlace}, ts.all (fun t => P.readableRec t && decide (t < P.types.size)) = true →
      DataW.TrodAll enc P W 0 (fun _ => true) true ts vs ds ps → (∀ x ∈ ps, x.block < W.heap.size) → DataW.TrodAll enc P W' 0 (fun b => decide (b < W.heap.size)) true ts vs ds ps
  | [], _, _, _, _, h, _ => by
    obtain ⟨rfl, rfl, rfl⟩ := trodAll_nil h
    exact trodAll_mk0
  | t :: ts, _, _, _, hr, h, hlt => by
    obtain ⟨v, vs1, d, ds1, a, b, rfl, rfl, rfl, h1, h2⟩ := trodAll_cons h
    simp only [List.all_cons, Bool.and_eq_true, decide_eq_true_eq] at hr
    exact ⟨a, b, Below.trod hl hr.1.1 hr.1.2 h1 hb (fun x hx => hlt x (List.mem_append_left _ hx)),
      trodAll_below hl hb hr.2 h2 (fun x hx => hlt x (List.mem_append_right _ hx)), rfl⟩

/-- The row's last step: the call returned true, and below the old heap nothing has turned. -/
theorem post_law {f : Func} {s : ChangeSpec} {W W' : World} {args : Array Value} {ds gs : List (DataW H)} {before : List MemPlace} {tb : TypeId}
    (hW : DataW.Whole enc P f.params.toList s.vars false W args.toList ds gs before) (hvars : s.vars = []) (hres : f.resultTypes = #[tb]) (htb : P.underlying tb = some .bool)
    (hfn : s.fn H (ds ++ []) = { results := [.lit (.bool true)], args := ds }) (hl : laidOutB P = true)
    (hread : f.params.toList.all (fun t => P.readableRec t && decide (t < P.types.size)) = true) (hb : Below W.heap.size W W') :
    s.post enc P f false true false false W args (.bool true) W' := by
  have hW0 := hW
  have hlt : ∀ p ∈ before, p.block < W.heap.size := fun p hp => hW.lt p hp
  obtain ⟨p, q, hA, hV, hpq, _, _⟩ := hW
  rw [hvars] at hV
  obtain ⟨rfl, rfl⟩ := trodVars_none hV
  refine ⟨ds, [], before, [], p, [], hW0, ?_, ?_, ?_, hb.frame _, fun h => by cases h⟩
  · rw [hfn, hres]
    exact trodAll_mk1 (shut_bool htb true)
  · rw [hfn]
    exact trodAll_below hl hb hread hA (fun x hx => hlt x (by rw [hpq]; exact List.mem_append_left _ hx))
  · rw [hfn, hvars]
    rfl

variable {w : World}

/-- A slice of int64 comes in. -/
theorem in_ints {t e : TypeId} {fuel : Nat} {v : Value} {x : DataW H × List MemPlace} (ht : P.underlying t = some (.slice e)) (he : P.underlying e = some (.int .i64)) (hc : P.cellsOf e = 1)
    (h : DataW.trod enc P w 0 (fun _ => true) true fuel t [v] = some x) :
    ∃ A c xs, v = .slice A xs.length c ∧ xs.length ≤ c ∧ c ≤ maxLen ∧ Rd w w.heap.size 1 A xs.length (ints xs) ∧ ∀ z ∈ xs, I64 z := by
  rcases open_ints ht he hc h with ⟨hcs, _⟩ | ⟨a, len, cap, zs, hcs, _, hl, hm, hz, _, hcell, hw⟩
  · simp only [List.cons.injEq, and_true] at hcs
    subst hcs
    exact ⟨none, 0, [], rfl, Nat.le_refl _, Nat.zero_le _, Rd.nil _ _ _ _, by simp⟩
  · simp only [List.cons.injEq, and_true] at hcs
    subst hcs
    simp only [if_true] at hz
    have hll : (zs.take len).length = len := by rw [List.length_take]; omega
    refine ⟨some a, cap, zs.take len, by rw [hll], by omega, hm, ⟨by rw [ints_length, Nat.mul_one], fun hn => ?_⟩, fun z hz' => ?_⟩
    · obtain ⟨b, off, spot⟩ := a
      have h0 := hcell 0 (by omega)
      have hspot : spot = none := by simpa [Addr.add] using World.cell?_spot h0
      subst hspot
      refine ⟨b, off, rfl, by simpa [Addr.add] using World.block_lt_of_cell? _ _ h0, fun j u hu => ?_⟩
      have hj : j < (zs.take len).length := by
        have := (List.getElem?_eq_some_iff.1 hu).1
        rwa [ints_length] at this
      rw [ints_get _ _ hj] at hu
      injection hu with hu
      subst hu
      have := hcell j (by omega)
      rw [Go.WideShapes.add_plain] at this
      rw [this]
      simp [List.getD, List.getElem?_eq_getElem (show j < zs.length by omega)]
    · have := hw z (List.mem_of_mem_take hz')
      simp [Lit.wf, IntKind.min, IntKind.max, IntKind.signed, IntKind.bits] at this
      exact ⟨by omega, by omega⟩

theorem i64_of_wf {x : Int} (h : (Lit.int .i64 x).wf = true) : I64 x := by
  simp [Lit.wf, IntKind.min, IntKind.max, IntKind.signed, IntKind.bits] at h
  exact ⟨by omega, by omega⟩

/-- An int64 comes in. -/
theorem in_int {t : TypeId} {v : Value} {d : DataW H} {p : List MemPlace} {r : Reach} {b0 : Nat} (ht : P.underlying t = some (.int .i64)) (hv : Value.okWide P w r b0 t v)
    (h : DataW.Trod enc P w 0 (fun _ => true) true t v d p) : ∃ n, v = .int .i64 n ∧ I64 n := by
  obtain ⟨n, rfl, _, _, hw⟩ := open_int ht hv h
  exact ⟨n, rfl, i64_of_wf hw⟩

/-- A struct of two int64 comes in by value. -/
theorem in_pair {t t0 t1 : TypeId} {f0 f1 : Field} {v : Value} {d : DataW H} {p : List MemPlace} {r : Reach} {b0 : Nat} (ht : P.underlying t = some (.struct #[f0, f1])) (hone : oneCellFields P #[f0, f1] = true) (hC : P.cellsOf t = 2)
    (e0 : f0.type = t0) (e1 : f1.type = t1) (h0 : P.underlying t0 = some (.int .i64)) (h1 : P.underlying t1 = some (.int .i64)) (hv : Value.okWide P w r b0 t v)
    (h : DataW.Trod enc P w 0 (fun _ => true) true t v d p) : ∃ a b, v = .agg #[.int .i64 a, .int .i64 b] ∧ I64 a ∧ I64 b := by
  obtain ⟨v0, v1, y0, y1, n, rfl, _, _, g0, g1⟩ := open_agg2 ht hone hC hv h
  rw [e0] at g0
  rw [e1] at g1
  obtain ⟨a, ha, _, wa⟩ := DataW.trod_int h0 g0
  obtain ⟨b, hb, _, wb⟩ := DataW.trod_int h1 g1
  simp only [List.cons.injEq, and_true] at ha hb
  subst ha
  subst hb
  exact ⟨a, b, rfl, i64_of_wf wa, i64_of_wf wb⟩
/-- A card comes in by value: a struct with one slice of int64. -/
theorem in_card {t ts e : TypeId} {f0 : Field} {v : Value} {d : DataW H} {p : List MemPlace} {r : Reach} {b0 : Nat} (ht : P.underlying t = some (.struct #[f0])) (hone : oneCellFields P #[f0] = true) (hC : P.cellsOf t = 1)
    (e0 : f0.type = ts) (hs : P.underlying ts = some (.slice e)) (he : P.underlying e = some (.int .i64)) (hc : P.cellsOf e = 1) (hv : Value.okWide P w r b0 t v) (h : DataW.Trod enc P w 0 (fun _ => true) true t v d p) :
    ∃ A c xs, v = .agg #[.slice A xs.length c] ∧ xs.length ≤ c ∧ c ≤ maxLen ∧ Rd w w.heap.size 1 A xs.length (ints xs) ∧ ∀ z ∈ xs, I64 z := by
  obtain ⟨cs, rfl, hsz⟩ := okWide_struct ht hv
  obtain ⟨l⟩ := cs
  match l, hsz.trans hC with
  | [c0], _ =>
    obtain ⟨fuel, hf⟩ := h
    obtain ⟨xs, n, _, hx, _, hlen, hg⟩ := DataW.trod_struct ht hf
    obtain ⟨o0, k0⟩ := hone_of hone 0 f0 rfl
    match xs, hlen with
    | [y0], _ =>
      have g0 : DataW.trod enc P w 0 (fun _ => true) true n f0.type [c0] = some y0 := by simpa [Value.cells, o0, k0] using hg 0 f0 rfl
      rw [e0] at g0
      obtain ⟨A, c, zs, rfl, h1, h2, h3, h4⟩ := in_ints hs he hc g0
      exact ⟨A, c, zs, rfl, h1, h2, h3, h4⟩

/-- A slice of structs of two int64 comes in. -/
theorem in_pairs {t e t0 t1 : TypeId} {f0 f1 : Field} {v : Value} {d : DataW H} {p : List MemPlace} {r : Reach} {b0 : Nat} (ht : P.underlying t = some (.slice e)) (he : P.underlying e = some (.struct #[f0, f1])) (hone : oneCellFields P #[f0, f1] = true) (hC : P.cellsOf e = 2)
    (e0 : f0.type = t0) (e1 : f1.type = t1) (h0 : P.underlying t0 = some (.int .i64)) (h1 : P.underlying t1 = some (.int .i64)) (hv : Value.okWide P w r b0 t v) (h : DataW.Trod enc P w 0 (fun _ => true) true t v d p) :
    ∃ A c ps, v = .slice A ps.length c ∧ ps.length ≤ c ∧ c ≤ maxLen ∧ Rd w w.heap.size 2 A ps.length (prs ps) ∧ ∀ z ∈ ps, I64 z.1 ∧ I64 z.2 := by
  obtain ⟨a0, len, cap, rfl⟩ := okWide_slice ht hv
  obtain ⟨fuel, hf⟩ := h
  rcases open_slice ht hf with ⟨hcs, _⟩ | ⟨a, len', cap', m, n, D, Pl, hcs, _, hl, hm, hmm, _, hi⟩
  · simp only [Value.cells, List.cons.injEq, and_true] at hcs
    rw [hcs]
    exact ⟨none, 0, [], rfl, Nat.le_refl _, Nat.zero_le _, Rd.nil _ _ _ _, by simp⟩
  · simp only [Value.cells, List.cons.injEq, and_true] at hcs
    rw [hcs]
    simp only [if_true] at hmm
    rw [hC] at hi
    obtain ⟨o0, k0⟩ := hone_of hone 0 f0 rfl
    obtain ⟨o1, k1⟩ := hone_of hone 1 f1 rfl
    have key : ∀ i, i < len' → ∃ q : Int × Int, w.cell? (a.add (i * 2)) = some (.int .i64 q.1) ∧ w.cell? (a.add (i * 2 + 1)) = some (.int .i64 q.2) ∧ I64 q.1 ∧ I64 q.2 := by
      intro i hil
      obtain ⟨cs', hc', ht'⟩ := hi i (by omega)
      obtain ⟨ys, n', _, _, hlen, hyl, hg⟩ := DataW.trod_struct he ht'
      obtain ⟨_, hcl, hat⟩ := World.cells?_some hc'
      match cs', hcl, ys, hyl with
      | [x0, x1], _, [y0, y1], _ =>
        have g0 : DataW.trod enc P w 0 (fun _ => true) true n' f0.type [x0] = some y0 := by simpa [o0, k0] using hg 0 f0 rfl
        have g1 : DataW.trod enc P w 0 (fun _ => true) true n' f1.type [x1] = some y1 := by simpa [o1, k1] using hg 1 f1 rfl
        rw [e0] at g0
        rw [e1] at g1
        obtain ⟨p0, q0, _, w0⟩ := DataW.trod_int h0 g0
        obtain ⟨p1, q1, _, w1⟩ := DataW.trod_int h1 g1
        simp only [List.cons.injEq, and_true] at q0 q1
        subst q0
        subst q1
        have c0 := hat 0 (by omega)
        have c1 := hat 1 (by omega)
        rw [Go.Deep.add_add] at c0 c1
        exact ⟨(p0, p1), c0, c1, i64_of_wf w0, i64_of_wf w1⟩
    obtain ⟨g, hg⟩ := choose_lt key
    have hll : ((List.range len').map g).length = len' := by simp
    have hgi : ∀ i (h : i < ((List.range len').map g).length), ((List.range len').map g)[i] = g i := by
      intro i h
      simp
    refine ⟨some a, cap', (List.range len').map g, by rw [hll], by omega, hm, ⟨by rw [prs_length], fun hn => ?_⟩, fun z hz => ?_⟩
    · rw [hll] at hn
      obtain ⟨b, off, spot⟩ := a
      have hc0 := (hg 0 hn).1
      have hspot : spot = none := by simpa [Addr.add] using World.cell?_spot hc0
      subst hspot
      refine ⟨b, off, rfl, by simpa [Addr.add] using World.block_lt_of_cell? _ _ hc0, fun j u hu => ?_⟩
      have hj : j < len' * 2 := by
        have := (List.getElem?_eq_some_iff.1 hu).1
        rw [prs_length, hll] at this
        exact this
      rcases Nat.mod_two_eq_zero_or_one j with h2 | h2
      · obtain ⟨i, rfl⟩ : ∃ i, j = i * 2 := ⟨j / 2, by omega⟩
        have hk : i < ((List.range len').map g).length := by rw [hll]; omega
        rw [prs_fst _ _ hk, hgi] at hu
        injection hu with hu
        subst hu
        have := (hg i (by omega)).1
        rwa [Go.WideShapes.add_plain] at this
      · obtain ⟨i, rfl⟩ : ∃ i, j = i * 2 + 1 := ⟨j / 2, by omega⟩
        have hk : i < ((List.range len').map g).length := by rw [hll]; omega
        rw [prs_snd _ _ hk, hgi] at hu
        injection hu with hu
        subst hu
        have := (hg i (by omega)).2.1
        rwa [Go.WideShapes.add_plain] at this
    · obtain ⟨i, hi', rfl⟩ := List.mem_map.1 hz
      exact (hg i (List.mem_range.1 hi')).2.2
end
end Go.Proofs.YtkmejkeanmjfbaaGreatDoor

/-! ### OpenBytes -/
namespace Go.Proofs.YtkmejkeanmjfbaaGreatDoor
open Go.RowKit Go.ChangeShapes Go.WideShapes Go.ChangeAt Go.Deep Go.Joins

section
variable {H : Type} {enc : TypeId × Value → H} {P : Program} {w : World}
/-- A slice of bytes comes in. -/
theorem in_bytes_raw {t e : TypeId} {fuel : Nat} {v : Value} {x : DataW H × List MemPlace} (ht : P.underlying t = some (.slice e)) (he : P.underlying e = some (.int .u8)) (hc : P.cellsOf e = 1)
    (h : DataW.trod enc P w 0 (fun _ => true) true fuel t [v] = some x) :
    ∃ A c bs, v = .slice A (List.length bs) c ∧ bs.length ≤ c ∧ c ≤ maxLen ∧ Rd w w.heap.size 1 A bs.length (byts bs) := by
  rcases open_ints ht he hc h with ⟨hcs, _⟩ | ⟨a, len, cap, zs, hcs, _, hl, hm, hz, _, hcell, hw⟩
  · simp only [List.cons.injEq, and_true] at hcs
    subst hcs
    exact ⟨none, 0, [], rfl, Nat.le_refl _, Nat.zero_le _, Rd.nil _ _ _ _⟩
  · simp only [List.cons.injEq, and_true] at hcs
    subst hcs
    simp only [if_true] at hz
    have hll : ((zs.take len).map fun z => UInt8.ofNat z.toNat).length = len := by rw [List.length_map, List.length_take]; omega
    refine ⟨some a, cap, (zs.take len).map fun z => UInt8.ofNat z.toNat, by rw [hll], by omega, hm, ⟨by rw [byts_length, Nat.mul_one], fun hn => ?_⟩⟩
    obtain ⟨b, off, spot⟩ := a
    have h0 := hcell 0 (by omega)
    have hspot : spot = none := by simpa [Addr.add] using World.cell?_spot h0
    subst hspot
    refine ⟨b, off, rfl, by simpa [Addr.add] using World.block_lt_of_cell? _ _ h0, fun j u hu => ?_⟩
    have hj : j < ((zs.take len).map fun z => UInt8.ofNat z.toNat).length := by
      have := (List.getElem?_eq_some_iff.1 hu).1
      rwa [byts_length] at this
    rw [byts_get _ _ hj] at hu
    injection hu with hu
    subst hu
    have hjz : j < zs.length := by omega
    have := hcell j hjz
    rw [Go.WideShapes.add_plain] at this
    rw [this]
    have hwf := hw zs[j] (List.getElem_mem hjz)
    simp [Lit.wf, IntKind.min, IntKind.max, IntKind.signed, IntKind.bits] at hwf
    simp [List.getD, List.getElem?_eq_getElem hjz]
    omega

theorem in_bytes {t e : TypeId} {v : Value} {d : DataW H} {p : List MemPlace} {r : Reach} {b0 : Nat} (ht : P.underlying t = some (.slice e)) (he : P.underlying e = some (.int .u8)) (hc : P.cellsOf e = 1) (hv : Value.okWide P w r b0 t v) (h : DataW.Trod enc P w 0 (fun _ => true) true t v d p) :
    ∃ A c bs, v = .slice A (List.length bs) c ∧ bs.length ≤ c ∧ c ≤ maxLen ∧ Rd w w.heap.size 1 A bs.length (byts bs) := by
  obtain ⟨a0, len, cap, rfl⟩ := okWide_slice ht hv
  obtain ⟨fuel, hf⟩ := h
  exact in_bytes_raw ht he hc hf
end
end Go.Proofs.YtkmejkeanmjfbaaGreatDoor
