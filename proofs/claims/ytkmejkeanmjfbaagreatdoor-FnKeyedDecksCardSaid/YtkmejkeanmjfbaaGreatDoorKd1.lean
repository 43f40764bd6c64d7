/- Words on slices in memory, and small lemmas. No program in sight. -/
import Derived.WalkKit
import Derived.WalkSpells
import Derived.WalkLawsBesides
import Derived.Deep.AppendLies
import Derived.Lib.Hide
/-! ### Words -/
namespace Go.Proofs.YtkmejkeanmjfbaaGreatDoor
open Go.RowKit

/-- The slice value '.slice A n c': its n elements, 'size' cells each, read as xs; all in a block below B. -/
def Rd (w : World) (B size : Nat) (A : Option Addr) (n : Nat) (xs : List Value) : Prop :=
  xs.length = n * size ∧ (0 < n → ∃ b off, A = some ⟨b, off, none⟩ ∧ b < B ∧ ∀ j u, xs[j]? = some u → w.cell? ⟨b, off + j, none⟩ = some u)

section
variable {w w' : World} {B B' size n : Nat} {A : Option Addr} {xs : List Value}

theorem Rd.nil (w : World) (B size : Nat) (A : Option Addr) : Rd w B size A 0 [] := ⟨by simp, fun h => absurd h (by omega)⟩

theorem Rd.len (h : Rd w B size A n xs) : xs.length = n * size := h.1

theorem Rd.at_ (h : Rd w B size A n xs) {k : Nat} (hk : k < n) :
    ∃ b off, A = some ⟨b, off, none⟩ ∧ b < B ∧ ∀ j u, xs[j]? = some u → w.cell? ⟨b, off + j, none⟩ = some u := h.2 (by omega)

theorem Rd.keep (h : Rd w B size A n xs) (hk : ∀ b o, b < B → w'.cell? ⟨b, o, none⟩ = w.cell? ⟨b, o, none⟩) : Rd w' B size A n xs :=
  ⟨h.1, fun hn => by
    obtain ⟨b, off, e, hb, hc⟩ := h.2 hn
    exact ⟨b, off, e, hb, fun j u hu => (hk _ _ hb).trans (hc j u hu)⟩⟩

theorem Rd.more (h : Rd w B size A n xs) (hB : B ≤ B') : Rd w B' size A n xs :=
  ⟨h.1, fun hn => by
    obtain ⟨b, off, e, hb, hc⟩ := h.2 hn
    exact ⟨b, off, e, by omega, hc⟩⟩

theorem Rd.below (h : Rd w B size A n xs) (hb : Below B w w') : Rd w' B size A n xs :=
  h.keep fun b o hp => hb.cell (p := ⟨b, o, none⟩) hp

theorem Rd.drew (h : Rd w B size A n xs) : Rd w.drew B size A n xs := h
theorem Rd.drewN (h : Rd w B size A n xs) (k : Nat) : Rd (w.drewN k) B size A n xs := h

theorem Rd.alloc (h : Rd w B size A n xs) (hB : B ≤ w.heap.size) (o : Obj) : Rd (w.alloc o) B size A n xs :=
  h.below ((Below.refl B w).alloc hB o)

theorem Rd.setCell (h : Rd w B size A n xs) {p : Addr} (hB : B ≤ p.block) (u : Value) : Rd (w.setCell p u) B size A n xs :=
  h.below ((Below.refl B w).setCell hB u)

/-- What a row of the call's own reads as. -/
theorem Rd.own {base : Nat} {e : TypeId} {c : Nat} (h : w.ownsRow base e size (.slice A n c) n xs) : Rd w w.heap.size size A n xs := by
  refine ⟨h.1, fun hn => ?_⟩
  obtain ⟨g, cap, hv, _, hlt⟩ := h.form hn
  have hA : A = some ⟨g, 0, none⟩ := by injection hv
  have hc : c = cap := by injection hv
  subst hA
  subst hc
  refine ⟨g, 0, rfl, hlt, fun j u hu => ?_⟩
  have hj : j < n * size := by
    rw [← h.1]
    exact (List.getElem?_eq_some_iff.1 hu).1
  rw [Nat.zero_add, h.cellAt j hj, hu]

/-- A cut 's[i:j]'. -/
theorem Rd.cut (h : Rd w B size A n xs) {i j cap : Nat} (hij : i ≤ j) (hj : j ≤ n) (hc : n ≤ cap) :
    Rd w B size (if cap = i then A else A.map (·.add (i * size))) (j - i) ((xs.drop (i * size)).take ((j - i) * size)) := by
  have hm : j * size ≤ n * size := Nat.mul_le_mul_right _ hj
  have hs : (j - i) * size = j * size - i * size := Nat.sub_mul ..
  refine ⟨?_, fun hn => ?_⟩
  · rw [List.length_take, List.length_drop, h.1]
    omega
  · obtain ⟨b, off, rfl, hb, hcell⟩ := h.2 (by omega)
    rw [if_neg (by omega)]
    refine ⟨b, off + i * size, ?_, hb, fun k u hu => ?_⟩
    · simp only [Option.map_some, Addr.add]
      split
      · rename_i h0
        rw [h0]
        rfl
      · rfl
    · rw [List.getElem?_take] at hu
      split at hu
      · rw [List.getElem?_drop] at hu
        rw [Nat.add_assoc]
        exact hcell _ _ hu
      · cases hu
end

/-- The range of an int64. -/
def I64 (x : Int) : Prop := -9223372036854775808 ≤ x ∧ x ≤ 9223372036854775807

/-- The cells of a list of int64. -/
def ints (xs : List Int) : List Value := xs.map (Value.int .i64)

theorem ints_length (xs : List Int) : (ints xs).length = xs.length := by simp [ints]
theorem ints_get (xs : List Int) (k : Nat) (h : k < xs.length) : (ints xs)[k]? = some (.int .i64 xs[k]) := by
  simp [ints, h]
theorem ints_snoc (xs : List Int) (a : Int) : ints (xs ++ [a]) = ints xs ++ [.int .i64 a] := by simp [ints]
theorem ints_one (xs : List Int) : ∀ u ∈ ints xs, u.oneCell' = true := by
  intro u hu
  simp only [ints, List.mem_map] at hu
  obtain ⟨a, _, rfl⟩ := hu
  rfl
theorem take_set (ys : List Value) (k : Nat) (u : Value) (h : k < ys.length) : (ys.set k u).take (k + 1) = ys.take k ++ [u] := by
  rw [List.take_succ_eq_append_getElem (by simpa using h)]
  rw [List.take_set, List.set_eq_of_length_le (by simp; omega), List.getElem_set_self]
theorem take_succ_of (ys : List Value) (k : Nat) (u : Value) (h : ys[k]? = some u) : ys.take (k + 1) = ys.take k ++ [u] := by
  obtain ⟨hk, rfl⟩ := List.getElem?_eq_some_iff.1 h
  exact List.take_succ_eq_append_getElem hk
/-- One element more has been copied. -/
theorem take_step {ys zs : List Value} {k : Nat} {u : Value} (h : ys.take k = zs.take k) (hk : k < ys.length) (hz : zs[k]? = some u) : (ys.set k u).take (k + 1) = zs.take (k + 1) := by
  rw [take_set _ _ _ hk, take_succ_of _ _ _ hz, h]
theorem take_done {ys zs : List Value} {n : Nat} (h : ys.take n = zs.take n) (hy : ys.length = n) (hz : zs.length = n) : ys = zs := by
  rwa [List.take_of_length_le (by omega), List.take_of_length_le (by omega)] at h

theorem own_at {w : World} {base : Nat} {e : TypeId} {size : Nat} {A : Option Addr} {n c : Nat} {xs : List Value} (h : w.ownsRow base e size (.slice A n c) n xs) {k : Nat} (hk : k < n) :
    ∃ g, A = some ⟨g, 0, none⟩ ∧ base ≤ g ∧ g < w.heap.size := by
  obtain ⟨g, cap, hv, hb, hlt⟩ := h.form (by omega)
  injection hv with hv
  exact ⟨g, hv, hb, hlt⟩
theorem grown_trans {a b c : World} {row : Option Nat} (h : a.grownBy b row) (k : b.grownBy c row) : a.grownBy c row :=
  ⟨k.os.trans h.os, k.tape.trans h.tape, k.output.trans h.output, Nat.le_trans h.size k.size, fun i hi hne => (k.block i (Nat.lt_of_lt_of_le hi h.size) hne).trans (h.block i hi hne)⟩
theorem grown_drewN {a b : World} {row : Option Nat} (h : a.grownBy b row) (n : Nat) : a.grownBy (b.drewN n) row := ⟨h.os, h.tape, h.output, h.size, h.block⟩
theorem below_drewN {B : Nat} {a w : World} (h : Below B a w) (n : Nat) : Below B a (w.drewN n) := ⟨h.os, h.tape, h.output, h.size, h.block⟩

/-- The numbers k, k+1, .. that a mark writes. -/
def marks (k : Int) (n : Nat) : List Int := (List.range n).map fun j : Nat => k + (j : Int)
theorem marks_length (k : Int) (n : Nat) : (marks k n).length = n := by simp [marks]
theorem marks_get (k : Int) (n j : Nat) (h : j < n) : (ints (marks k n))[j]? = some (.int .i64 (k + (j : Int))) := by
  simp [ints, marks, h]

/-- A reading whose bound is the heap's own size: one new block more. -/
theorem Rd.a1 {w : World} {size n : Nat} {A : Option Addr} {xs : List Value} (h : Rd w w.heap.size size A n xs) (o : Obj) : Rd (w.alloc o) (w.alloc o).heap.size size A n xs :=
  (h.alloc (Nat.le_refl _) o).more (by simp)
theorem Rd.up {w w' : World} {size n : Nat} {A : Option Addr} {xs : List Value} (h : Rd w w.heap.size size A n xs) (hb : Below w.heap.size w w') : Rd w' w'.heap.size size A n xs :=
  (h.below hb).more hb.size
theorem ba {a w : World} (h : Below a.heap.size a w) (o : Obj) : Below a.heap.size a (w.alloc o) := h.alloc h.size o
theorem b0 (w : World) : Below w.heap.size w w := Below.refl _ _
theorem bset {B : Nat} {a w : World} (h : Below B a w) (b o : Nat) (u : Value) (hb : B ≤ b) : Below B a (w.setCell ⟨b, o, none⟩ u) := h.setCell (p := ⟨b, o, none⟩) hb u
theorem bs {a b c : World} (h : Below a.heap.size a b) (k : Below b.heap.size b c) : Below a.heap.size a c := h.trans (k.mono h.size)

theorem own_base {w : World} {base base' : Nat} {e : TypeId} {size : Nat} {v : Value} {n : Nat} {xs : List Value} (h : w.ownsRow base' e size v n xs) (hb : base ≤ base') : w.ownsRow base e size v n xs := by
  obtain ⟨h1, h2⟩ := h
  refine ⟨h1, ?_⟩
  rcases h2 with h2 | ⟨g, cap, cur, hv, hg, r⟩
  · exact .inl h2
  · exact .inr ⟨g, cap, cur, hv, by omega, r⟩
/-- A store into a block below the row's base. -/
theorem own_below {w : World} {base : Nat} {e : TypeId} {size : Nat} {v : Value} {n : Nat} {xs : List Value} (h : w.ownsRow base e size v n xs) (b o : Nat) (u : Value) (hb : b < base) : (w.setCell ⟨b, o, none⟩ u).ownsRow base e size v n xs :=
  ownsRow_setCell_below h (a := ⟨b, o, none⟩) hb u

/-- The cells of a list of structs of two int64. -/
def prs (ps : List (Int × Int)) : List Value := ps.flatMap fun p => [.int .i64 p.1, .int .i64 p.2]
theorem prs_length (ps : List (Int × Int)) : (prs ps).length = ps.length * 2 := by
  induction ps with
  | nil => rfl
  | cons p ps ih => simp only [prs, List.flatMap_cons, List.length_append, List.length_cons, List.length_nil] at ih ⊢; omega
theorem prs_cons (p : Int × Int) (ps : List (Int × Int)) : prs (p :: ps) = .int .i64 p.1 :: .int .i64 p.2 :: prs ps := by simp [prs]
theorem prs_fst (ps : List (Int × Int)) (k : Nat) (h : k < ps.length) : (prs ps)[k * 2]? = some (.int .i64 ps[k].1) := by
  induction ps generalizing k with
  | nil => simp at h
  | cons p ps ih =>
    rw [prs_cons]
    cases k with
    | zero => rfl
    | succ k =>
      have e : (k + 1) * 2 = k * 2 + 1 + 1 := by omega
      rw [e, List.getElem?_cons_succ, List.getElem?_cons_succ]
      exact ih k (by simpa using h)
theorem prs_snd (ps : List (Int × Int)) (k : Nat) (h : k < ps.length) : (prs ps)[k * 2 + 1]? = some (.int .i64 ps[k].2) := by
  induction ps generalizing k with
  | nil => simp at h
  | cons p ps ih =>
    rw [prs_cons]
    cases k with
    | zero => rfl
    | succ k =>
      have e : (k + 1) * 2 + 1 = k * 2 + 1 + 1 + 1 := by omega
      rw [e, List.getElem?_cons_succ, List.getElem?_cons_succ]
      exact ih k (by simpa using h)
theorem prs_append (ps qs : List (Int × Int)) : prs (ps ++ qs) = prs ps ++ prs qs := by simp [prs]
theorem prs_one (ps : List (Int × Int)) : ∀ u ∈ prs ps, u.oneCell' = true := by
  intro u hu
  simp only [prs, List.mem_flatMap] at hu
  obtain ⟨p, _, h⟩ := hu
  simp at h
  rcases h with rfl | rfl <;> rfl
/-- What two stores do to a row of pairs. -/
theorem take_step2 {ys zs : List Value} {k : Nat} {u v : Value} (h : ys.take (k * 2) = zs.take (k * 2)) (hk : k * 2 + 1 < ys.length) (h1 : zs[k * 2]? = some u) (h2 : zs[k * 2 + 1]? = some v) :
    ((ys.set (k * 2) u).set (k * 2 + 1) v).take ((k + 1) * 2) = zs.take ((k + 1) * 2) := by
  have e := take_step (take_step h (by omega) h1) (by simpa using hk) h2
  have : (k + 1) * 2 = k * 2 + 1 + 1 := by omega
  rw [this]
  exact e
/-- The pairs that a mark writes. -/
def marks2 (k : Int) (n : Nat) : List (Int × Int) := (List.range n).map fun j : Nat => (k + 2 * (j : Int), k + 2 * (j : Int) + 1)
theorem marks2_length (k : Int) (n : Nat) : (marks2 k n).length = n := by simp [marks2]
theorem marks2_fst (k : Int) (n j : Nat) (h : j < n) : (prs (marks2 k n))[j * 2]? = some (.int .i64 (k + 2 * (j : Int))) := by
  rw [prs_fst _ _ (by rw [marks2_length]; exact h)]
  simp [marks2]
theorem marks2_snd (k : Int) (n j : Nat) (h : j < n) : (prs (marks2 k n))[j * 2 + 1]? = some (.int .i64 (k + 2 * (j : Int) + 1)) := by
  rw [prs_snd _ _ (by rw [marks2_length]; exact h)]
  simp [marks2]

theorem ownsRow_set {w : World} {base : Nat} {e : TypeId} {size g n cap : Nat} {xs : List Value} (h : w.ownsRow base e size (.slice (some ⟨g, 0, none⟩) n cap) n xs) (j : Nat) (u : Value) :
    (w.setCell ⟨g, j, none⟩ u).ownsRow base e size (.slice (some ⟨g, 0, none⟩) n cap) n (xs.set j u) := (h.stored j u).1


theorem own_heap {w : World} {base : Nat} {e : TypeId} {size g n cap : Nat} {xs : List Value} (h : w.ownsRow base e size (.slice (some ⟨g, 0, none⟩) n cap) n xs) : g < w.heap.size := h.lt g rfl |>.2
/-- A row stays where only what lies above it turns. -/
theorem own_up {w w' : World} {base B : Nat} {e : TypeId} {size : Nat} {A : Option Addr} {n c m : Nat} {xs : List Value} (h : w.ownsRow base e size (.slice A n c) m xs) (hb : Below B w w') (hB : ∀ g, A = some ⟨g, 0, none⟩ → g < B) : w'.ownsRow base e size (.slice A n c) m xs := by
  obtain ⟨h1, h2⟩ := h
  refine ⟨h1, ?_⟩
  rcases h2 with h2 | ⟨g, cap, cur, hv, hg, hh, r⟩
  · exact .inl h2
  · have hA : A = some ⟨g, 0, none⟩ := by injection hv
    exact .inr ⟨g, cap, cur, hv, hg, (hb.block g (hB g hA)).trans hh, r⟩
theorem own_upg {w w' : World} {base B : Nat} {e : TypeId} {size g n c m : Nat} {xs : List Value} (h : w.ownsRow base e size (.slice (some ⟨g, 0, none⟩) n c) m xs) (hb : Below B w w') (hB : g < B) : w'.ownsRow base e size (.slice (some ⟨g, 0, none⟩) n c) m xs :=
  own_up h hb fun g' hg => by
    injection hg with hg
    injection hg with hg
    omega
theorem own_cell {w : World} {base : Nat} {e : TypeId} {size g n cap : Nat} {xs : List Value} (h : w.ownsRow base e size (.slice (some ⟨g, 0, none⟩) n cap) n xs) (j : Nat) (hj : j < xs.length) : w.cell? ⟨g, j, none⟩ = some xs[j] := by
  rw [h.cellAt j (by rw [← h.1]; exact hj)]
  exact List.getElem?_eq_getElem hj

section
variable {P : Program}
theorem ownBlock_some {A : Option Addr} {n c k : Nat} (h : (Value.slice A n c).ownBlock = some k) : ∃ ad, A = some ad ∧ ad.block = k := by
  cases A with
  | none => simp [Value.ownBlock] at h
  | some ad => exact ⟨ad, rfl, by simpa [Value.ownBlock] using h⟩

/-- 'append(out, E..)': what is appended has just been laid into a block of its own. -/
theorem wpList_ap {ops : Array Oper} {rest : List Oper} {o : Oper} {a : Act} {Q : Exit → Act → World → Prop} (hgd : o.guard = none) (s x : Operand) (t : TypeId)
    (ho : o.op = .call { callee := .builtin .append, args := #[s, x], argTypes := #[t, t] })
    (base : Nat) (e : TypeId) (i : TypeInfo) (z : Value) (size bytes : Nat) (ht : P.underlying t = some (.slice e)) (hi : P.info? e = some i) (hz : i.zero = some z)
    (hsize : i.size = size) (hby : i.bytes = bytes) (hzs : z.cells.size = size) (hsz : 0 < size)
    (A : Option Addr) (n c : Nat) (xs : List Value) (hs : a.eval s = .slice A n c) (wr : World) (hown : wr.ownsRow base e size (.slice A n c) n xs)
    (m : Nat) (cs : Array Value) (H : Nat) (hH : H = wr.heap.size) (hx : a.eval x = .slice (some ⟨H, 0, none⟩) m m) (hl : cs.size = m * size) (h1 : ∀ u ∈ cs.toList, u.oneCell' = true)
    (hm : 0 < m) (h63 : n + m ≤ 1099511627776) (hbytes : bytes ≤ 128) (hbase : base ≤ wr.heap.size)
    (h : ∀ g cap w', w'.ownsRow base e size (.slice (some ⟨g, 0, none⟩) (n + m) cap) (n + m) (xs ++ cs.toList) → Below base wr w' → wr.grownBy w' (Value.slice A n c).ownBlock → (A = some ⟨g, 0, none⟩ ∨ wr.heap.size ≤ g) → g < w'.heap.size →
      wpList P ops Q rest (a.put o.dst (.slice (some ⟨g, 0, none⟩) (n + m) cap)) w') : wpList P ops Q (o :: rest) a (wr.alloc (.cells cs e)) := by
  subst hH
  refine wpList_append_lies _ hgd s x t ho base e i z size bytes ht hi hz hsize hby hzs hsz _ n xs hs (hown.alloc _) ⟨wr.heap.size, 0, none⟩ m m cs.toList hx (by simpa using hl)
    (World.news_of_block (heap_alloc_new wr _)) h1 hm (by unfold maxLen; omega) ?_ (by simp; omega) _ rfl ?_
  · have : (n + m) * bytes ≤ 1099511627776 * 128 := Nat.mul_le_mul h63 hbytes
    omega
  · intro g cap w' h2 h3 h4 h5
    have hg : wr.grownBy w' (Value.slice A n c).ownBlock := grown_trans (World.grownBy_alloc wr _ _) h3
    refine h g cap w' h2 ((Below.refl _ _).grown hg hbase fun k hk => (hown.lt k hk).1) hg ?_ h5
    rcases h4 with h4 | h4
    · obtain ⟨ad, rfl, hb⟩ := ownBlock_some h4
      left
      rcases hown.2 with ⟨hv, _⟩ | ⟨g', cap', cur, hv, _⟩
      · cases hv
      · injection hv with hv
        injection hv with hv
        subst hv
        simp only at hb
        rw [hb]
    · right
      simp at h4
      omega
end

theorem own_lit (w : World) (cs : Array Value) (n : Nat) {base H : Nat} {e : TypeId} {size : Nat} (hH : H = w.heap.size) (hb : base ≤ w.heap.size) (hm : n ≤ 1099511627776) (hs : cs.size = n * size) :
    (w.alloc (.cells cs e)).ownsRow base e size (.slice (some ⟨H, 0, none⟩) n n) n cs.toList := by
  subst hH
  exact World.ownsRow_lit w cs n hb (by unfold maxLen; omega) hs

/-- A row that is there stays where only what is new turns. -/
theorem own_bs {w w' : World} {base : Nat} {e : TypeId} {size : Nat} {v : Value} {n : Nat} {xs : List Value} (h : w.ownsRow base e size v n xs) (hb : Below w.heap.size w w') : w'.ownsRow base e size v n xs := by
  obtain ⟨h1, h2⟩ := h
  refine ⟨h1, ?_⟩
  rcases h2 with h2 | ⟨g, cap, cur, hv, hg, hh, r⟩
  · exact .inl h2
  · exact .inr ⟨g, cap, cur, hv, hg, (hb.block g (Array.getElem?_eq_some_iff.1 hh).1).trans hh, r⟩
theorem Rd.bs {w w' : World} {B size n : Nat} {A : Option Addr} {xs : List Value} (h : Rd w B size A n xs) (hB : B ≤ w.heap.size) (hb : Below w.heap.size w w') : Rd w' B size A n xs := h.below (hb.mono hB)
theorem Rd.grown {w w' : World} {B size n : Nat} {A : Option Addr} {xs : List Value} {row : Option Nat} (h : Rd w B size A n xs) (hB : B ≤ w.heap.size) (hg : w.grownBy w' row) (hr : ∀ g, row = some g → B ≤ g) : Rd w' B size A n xs :=
  h.keep fun b o hb => World.cell?_of_block (hg.block b (by omega) (fun e => by have := hr b e.symm; omega))
theorem bgrown {a w w' : World} {base : Nat} {e : TypeId} {size : Nat} {v : Value} {n : Nat} {xs : List Value} (h : Below a.heap.size a w) (ho : w.ownsRow base e size v n xs) (hg : w.grownBy w' v.ownBlock) (hB : a.heap.size ≤ base) : Below a.heap.size a w' :=
  h.grown hg h.size fun g hk => by
    have := (ho.lt g hk).1
    omega

/-! ### Objects in an interval of blocks, and calls that turn such an interval alone -/
/-- Beside what is new only blocks lo .. hi-1 may have turned. -/
structure Chg (lo hi : Nat) (w w' : World) : Prop where
  os : w'.os = w.os
  tape : w'.tape = w.tape
  output : w'.output = w.output
  size : w.heap.size ≤ w'.heap.size
  block : ∀ k, k < w.heap.size → (k < lo ∨ hi ≤ k) → w'.heap[k]? = w.heap[k]?
theorem Chg.below {lo hi B : Nat} {a w w' : World} (h : Below B a w) (c : Chg lo hi w w') (hB : B ≤ lo) (hs : B ≤ w.heap.size) : Below B a w' :=
  h.trans ⟨c.os, c.tape, c.output, c.size, fun k hk => c.block k (by omega) (.inl (by omega))⟩
theorem Chg.rd {lo hi B size n : Nat} {w w' : World} {A : Option Addr} {xs : List Value} (c : Chg lo hi w w') (h : Rd w B size A n xs) (hB : B ≤ lo) (hs : B ≤ w.heap.size) : Rd w' B size A n xs :=
  h.keep fun b o hb => World.cell?_of_block (c.block b (by omega) (.inl (by omega)))
theorem Chg.refl (lo hi : Nat) (w : World) : Chg lo hi w w := ⟨rfl, rfl, rfl, Nat.le_refl _, fun _ _ _ => rfl⟩
theorem Chg.trans {lo hi : Nat} {a b c : World} (h : Chg lo hi a b) (k : Chg lo hi b c) : Chg lo hi a c :=
  ⟨k.os.trans h.os, k.tape.trans h.tape, k.output.trans h.output, Nat.le_trans h.size k.size, fun i hi ho => (k.block i (Nat.lt_of_lt_of_le hi h.size) ho).trans (h.block i hi ho)⟩
theorem Chg.mono {lo hi lo' hi' : Nat} {w w' : World} (h : Chg lo hi w w') (h1 : lo' ≤ lo) (h2 : hi ≤ hi') : Chg lo' hi' w w' :=
  ⟨h.os, h.tape, h.output, h.size, fun k hk ho => h.block k hk (by omega)⟩
theorem Chg.of_below {lo hi : Nat} {w w' : World} (h : Below w.heap.size w w') : Chg lo hi w w' := ⟨h.os, h.tape, h.output, h.size, fun k hk _ => h.block k hk⟩

/-- A row of the call's own whose block lies in lo .. hi-1. -/
def Ob (w : World) (lo hi : Nat) (e : TypeId) (size : Nat) (v : Value) (n : Nat) (xs : List Value) : Prop := w.ownsRow lo e size v n xs ∧ ∀ k, v.ownBlock = some k → k < hi
section
variable {w w' : World} {lo hi : Nat} {e : TypeId} {size : Nat} {v : Value} {n : Nat} {xs : List Value}
theorem Ob.of (h : w.ownsRow lo e size v n xs) : Ob w lo w.heap.size e size v n xs := ⟨h, fun k hk => (h.lt k hk).2⟩
theorem Ob.bs (h : Ob w lo hi e size v n xs) (hb : Below w.heap.size w w') : Ob w' lo hi e size v n xs := ⟨own_bs h.1 hb, h.2⟩
theorem Ob.chg {l r : Nat} (h : Ob w lo hi e size v n xs) (c : Chg l r w w') (ho : hi ≤ l ∨ r ≤ lo) : Ob w' lo hi e size v n xs := by
  refine ⟨?_, h.2⟩
  obtain ⟨⟨h1, h2⟩, h3⟩ := h
  refine ⟨h1, ?_⟩
  rcases h2 with h2 | ⟨g, cap, cur, hv, hg, hh, s⟩
  · exact .inl h2
  · have hgh := h3 g (by rw [hv]; rfl)
    exact .inr ⟨g, cap, cur, hv, hg, (c.block g (Array.getElem?_eq_some_iff.1 hh).1 (by omega)).trans hh, s⟩
theorem Ob.rd {A : Option Addr} {c : Nat} (h : Ob w lo hi e size (.slice A n c) n xs) : Rd w w.heap.size size A n xs := Rd.own h.1
/-- What a mark leaves. -/
theorem Ob.marked {ys : List Value} (h : Ob w lo hi e size v n xs) (ho : w'.ownsRow lo e size v n ys) : Ob w' lo hi e size v n ys := ⟨ho, h.2⟩
theorem Ob.turns (h : Ob w lo hi e size v n xs) (hg : w.grownBy w' v.ownBlock) : Chg lo hi w w' :=
  ⟨hg.os, hg.tape, hg.output, hg.size, fun k hk ho => hg.block k hk fun e => by
    have h1 := h.1.lt k e.symm
    have h2 := h.2 k e.symm
    omega⟩
end

theorem Chg.cell {lo hi : Nat} {w w' : World} (c : Chg lo hi w w') {b o : Nat} {v : Value} (h : w.cell? ⟨b, o, none⟩ = some v) (hb : b < lo ∨ hi ≤ b) : w'.cell? ⟨b, o, none⟩ = some v :=
  (World.cell?_of_block (c.block b (World.block_lt_of_cell? _ _ h) hb)).trans h
/-- A row's length is at most its capacity. -/
theorem own_cap {w : World} {base : Nat} {e : TypeId} {size : Nat} {A : Option Addr} {n m c : Nat} {xs : List Value} (h : w.ownsRow base e size (.slice A m c) n xs) : n ≤ c ∧ c ≤ maxLen := by
  rcases h.2 with ⟨hv, rfl⟩ | ⟨g, cap, cur, hv, hg, hh, hn, hm, _⟩
  · exact ⟨Nat.zero_le _, by injection hv with _ _ h; subst h; exact Nat.zero_le _⟩
  · injection hv with _ _ h
    subst h
    exact ⟨hn, hm⟩

theorem ret_int {k : IntKind} {a b : Int} (h : a = b) : Ending.returned (.int k a) = .returned (.int k b) := by rw [h]
theorem ret_bool {a b : Bool} (h : a = b) : Ending.returned (.bool a) = .returned (.bool b) := by rw [h]
/-- The index of the first element that is chosen; -1 if there is none. -/
def idxP {α : Type} (p : α → Bool) (l : List α) : Int := if l.any p = true then (l.findIdx p : Int) else -1
theorem idxP_none {α : Type} {p : α → Bool} {l : List α} (h : l.any p = false) : idxP p l = -1 := by simp [idxP, h]
theorem idxP_some {α : Type} {p : α → Bool} {l : List α} {k : Nat} (hk : k < l.length) (h : (l.take k).any p = false) (hp : p l[k] = true) : idxP p l = k := by
  have hany : l.any p = true := List.any_eq_true.2 ⟨l[k], List.getElem_mem hk, hp⟩
  have hf : l.findIdx p = k := by
    rw [List.findIdx_eq hk]
    refine ⟨hp, fun j hj => ?_⟩
    have := List.any_eq_false.1 h l[j] (List.mem_take_iff_getElem.2 ⟨j, by omega, rfl⟩)
    simpa using this
  simp [idxP, hany, hf]
theorem idxP_ge {α : Type} (p : α → Bool) (l : List α) : (decide (0 ≤ idxP p l)) = l.any p := by
  unfold idxP
  split
  · rename_i h; rw [h]; simp
  · rename_i h; simp only [Bool.not_eq_true] at h; rw [h]; simp
theorem any_take_succ {α : Type} {p : α → Bool} {l : List α} {k : Nat} (hk : k < l.length) (h : (l.take k).any p = false) (hp : p l[k] = false) : (l.take (k + 1)).any p = false := by
  rw [List.take_succ_eq_append_getElem hk, List.any_append, h]
  simp [hp]
theorem any_take_all {α : Type} {p : α → Bool} {l : List α} {k : Nat} (hk : ¬ k < l.length) (h : (l.take k).any p = false) : l.any p = false := by
  rwa [List.take_of_length_le (by omega)] at h

/-! ### clear on a part of a row of the call's own; a row cut short -/
theorem own_short {w : World} {base : Nat} {e : TypeId} {size g n cap : Nat} {xs : List Value} (h : w.ownsRow base e size (.slice (some ⟨g, 0, none⟩) n cap) n xs) {j : Nat} (hj : j ≤ n) :
    w.ownsRow base e size (.slice (some ⟨g, 0, none⟩) j cap) j (xs.take (j * size)) := by
  have hm : j * size ≤ n * size := Nat.mul_le_mul_right _ hj
  rcases h.2 with ⟨hv, _⟩ | ⟨g', cap', cur, hv, hb, hg, hnc, hcm, hcs, htake⟩
  · cases hv
  · injection hv with hv _ hv2
    injection hv with hv
    injection hv with hv
    subst hv
    subst hv2
    refine ⟨by rw [List.length_take, h.1]; omega, .inr ⟨g, cap, cur, rfl, hb, hg, by omega, hcm, hcs, ?_⟩⟩
    rw [← htake, List.take_take, Nat.min_eq_left hm]
section
variable {P : Program} {w : World} {base : Nat} {t e ty : TypeId} {z : Value} {size : Nat}
theorem run_clear_own (ht : P.underlying t = some (.slice e)) (hv : ∀ w, (zeroValue e).run P w = .ok z w) (hz : z.cells.size = size) (h1 : ∀ u ∈ z.cells.toList, u.oneCell' = true)
    {g n cap : Nat} {xs : List Value} (hown : w.ownsRow base e size (.slice (some ⟨g, 0, none⟩) n cap) n xs) (j m c : Nat) (hjm : j + m ≤ n) (hm : 0 < m) :
    ∃ w', (Builtin.clear_ #[t] ty #[.slice (some ⟨g, j * size, none⟩) m c]).run P w = .ok (.tuple #[]) w' ∧
      w'.ownsRow base e size (.slice (some ⟨g, 0, none⟩) n cap) n (xs.take (j * size) ++ (Builtin.zeroCells z.cells m).toList ++ xs.drop ((j + m) * size)) ∧ w.grownBy w' (some g) := by
  have hzl : (Builtin.zeroCells z.cells m).toList.length = m * size := by rw [Array.length_toList, size_zeroCells, hz]
  have hmul : (j + m) * size ≤ n * size := Nat.mul_le_mul_right _ hjm
  have hadd : (j + m) * size = j * size + m * size := Nat.add_mul ..
  rcases hown.2 with ⟨hv', _⟩ | ⟨g', cap', cur, hv', hb, hg, hnc, hcm, hcs, htake⟩
  · cases hv'
  · injection hv' with hv' _ hv2
    injection hv' with hv'
    injection hv' with hv'
    subst hv'
    subst hv2
    have hcap : n * size ≤ cap * size := Nat.mul_le_mul_right _ hnc
    have hz1 : ∀ v ∈ (Builtin.zeroCells z.cells m).toList, v.oneCell' = true := by
      intro v hv3
      simp only [Builtin.zeroCells] at hv3
      simp at hv3
      obtain ⟨a, ha, rfl⟩ := hv3
      refine h1 _ ?_
      have : a % z.cells.size < z.cells.size := Nat.mod_lt _ (by
        rcases Nat.eq_zero_or_pos z.cells.size with h0 | h0
        · rw [h0] at ha; simp at ha
        · exact h0)
      simp [this]
    have hst := run_storeCells_at P g (j * size) e (Builtin.zeroCells z.cells m).toList 0 cur w hg (by rw [hzl]; omega) hz1
    simp only [Nat.add_zero, hzl] at hst
    obtain ⟨arr, harr⟩ : ∃ arr, arr = (cur.toList.take (j * size) ++ (Builtin.zeroCells z.cells m).toList ++ cur.toList.drop (j * size + m * size)).toArray := ⟨_, rfl⟩
    rw [← harr] at hst
    refine ⟨w.setRow g arr, ?_, ⟨?_, .inr ⟨g, cap, arr, rfl, hb, setRow_heap w g cur arr e _ hg, hnc, hcm, ?_, ?_⟩⟩, ⟨rfl, rfl, rfl, by simp, fun k _ hk => setRow_other w g k _ (fun e => hk (by rw [e]))⟩⟩
    · obtain ⟨m', rfl⟩ : ∃ m', m = m' + 1 := ⟨m - 1, by omega⟩
      simp [Builtin.clear_, run_underlying ht, hv, hst]
    · rw [List.length_append, List.length_append, List.length_take, List.length_drop, hown.1, hzl]
      omega
    · rw [harr]
      simp only [List.size_toArray, List.length_append, List.length_take, List.length_drop, hzl]
      rw [Array.length_toList, hcs]
      omega
    · rw [harr]
      have hcl : cur.toList.length = cap * size := by rw [Array.length_toList, hcs]
      have e1 : xs.take (j * size) = cur.toList.take (j * size) := by rw [← htake, List.take_take, Nat.min_eq_left (by omega)]
      have e2 : xs.drop ((j + m) * size) = (cur.toList.drop (j * size + m * size)).take (n * size - (j + m) * size) := by
        rw [← htake, List.drop_take, hadd]
      rw [e1, e2]
      have l1 : (cur.toList.take (j * size) ++ (Builtin.zeroCells z.cells m).toList).length = (j + m) * size := by
        rw [List.length_append, List.length_take, hcl, hzl]
        omega
      show List.take (n * size) (cur.toList.take (j * size) ++ (Builtin.zeroCells z.cells m).toList ++ cur.toList.drop (j * size + m * size)) = _
      rw [List.take_append, l1, List.take_of_length_le (by rw [l1]; omega)]
end

theorem take_snoc2 {zs : List Value} {i : Nat} (u v : Value) (h : i * 2 + 1 < zs.length) : ((zs.set (i * 2) u).set (i * 2 + 1) v).take ((i + 1) * 2) = zs.take (i * 2) ++ [u, v] := by
  have e : (i + 1) * 2 = i * 2 + 1 + 1 := by omega
  rw [e, take_set _ _ _ (by simpa using h), take_set _ _ _ (by omega)]
  simp
theorem drop_set {zs : List Value} {a d : Nat} (u : Value) (h : a < d) : (zs.set a u).drop d = zs.drop d := by
  apply List.ext_getElem?
  intro k
  rw [List.getElem?_drop, List.getElem?_drop, List.getElem?_set_ne (by omega)]
theorem get_of_drop {zs ys : List Value} {d k : Nat} (h : zs.drop d = ys.drop d) (hk : d ≤ k) : zs[k]? = ys[k]? := by
  have : (zs.drop d)[k - d]? = (ys.drop d)[k - d]? := by rw [h]
  rw [List.getElem?_drop, List.getElem?_drop, show d + (k - d) = k by omega] at this
  exact this
theorem drop_more {zs ys : List Value} {d k : Nat} (h : zs.drop d = ys.drop d) (hk : d ≤ k) : zs.drop k = ys.drop k := by
  apply List.ext_getElem?
  intro i
  rw [List.getElem?_drop, List.getElem?_drop]
  exact get_of_drop h (by omega)

/-- What is left of a list when the chosen elements are struck out. -/
def keep {α : Type} (p : α → Bool) (l : List α) : List α := l.filter fun x => !p x
theorem keep_none {α : Type} {p : α → Bool} {l : List α} (h : l.any p = false) : keep p l = l := by
  unfold keep
  rw [List.filter_eq_self]
  intro a ha
  have := List.any_eq_false.1 h a ha
  simpa using this
theorem keep_take_succ {α : Type} {p : α → Bool} {l : List α} {j : Nat} (hj : j < l.length) : keep p (l.take (j + 1)) = keep p (l.take j) ++ (if p l[j] = true then [] else [l[j]]) := by
  unfold keep
  rw [List.take_succ_eq_append_getElem hj, List.filter_append]
  congr 1
  cases h : p l[j] <;> simp [h]
theorem keep_yes {α : Type} {p : α → Bool} {l : List α} {j : Nat} (hj : j < l.length) (h : p l[j] = true) : keep p (l.take (j + 1)) = keep p (l.take j) := by
  rw [keep_take_succ hj, if_pos h, List.append_nil]
theorem keep_no {α : Type} {p : α → Bool} {l : List α} {j : Nat} (hj : j < l.length) (h : p l[j] = false) : keep p (l.take (j + 1)) = keep p (l.take j) ++ [l[j]] := by
  rw [keep_take_succ hj, if_neg (by simp [h])]
theorem keep_le {α : Type} (p : α → Bool) (l : List α) (j : Nat) : (keep p (l.take j)).length ≤ j := by
  have h1 := List.length_filter_le (fun x => !p x) (l.take j)
  have h2 := List.length_take_le j l
  unfold keep
  omega
/-- The first chosen one. -/
theorem any_first {α : Type} {p : α → Bool} {l : List α} (h : l.any p = true) : ∃ k, ∃ hk : k < l.length, (l.take k).any p = false ∧ p l[k] = true := by
  induction l with
  | nil => simp at h
  | cons a l ih =>
    by_cases ha : p a = true
    · exact ⟨0, by simp, by simp, by simpa using ha⟩
    · have ha' : p a = false := by simpa using ha
      simp only [List.any_cons, ha', Bool.false_or] at h
      obtain ⟨k, hk, h1, h2⟩ := ih h
      exact ⟨k + 1, by simpa using hk, by simp [ha', h1], by simpa using h2⟩

theorem prs_take (ps : List (Int × Int)) (k : Nat) : (prs ps).take (k * 2) = prs (ps.take k) := by
  induction ps generalizing k with
  | nil => simp [prs]
  | cons p ps ih =>
    cases k with
    | zero => simp [prs]
    | succ k =>
      rw [prs_cons, List.take_succ_cons, prs_cons, show (k + 1) * 2 = k * 2 + 1 + 1 by omega, List.take_succ_cons, List.take_succ_cons, ih]

section
variable {P : Program}
/-- append at a step of a region that draws its order: what is appended lies whole in block H. -/
theorem step_ap {ops : Array Oper} {o : Oper} {a : Act} {K : Act → World → Prop} {Q : Exit → Act → World → Prop} {E : Prop} (hgd : o.guard = none) (s x : Operand) (t : TypeId)
    (ho : o.op = .call { callee := .builtin .append, args := #[s, x], argTypes := #[t, t] })
    (base : Nat) (e : TypeId) (i : TypeInfo) (z : Value) (size bytes : Nat) (ht : P.underlying t = some (.slice e)) (hi : P.info? e = some i) (hz : i.zero = some z)
    (hsize : i.size = size) (hby : i.bytes = bytes) (hzs : z.cells.size = size) (hsz : 0 < size)
    (A : Option Addr) (n c : Nat) (xs : List Value) (w : World) (hs : a.eval s = .slice A n c) (hown : w.ownsRow base e size (.slice A n c) n xs)
    (m : Nat) (cs : Array Value) (H : Nat) (hb : w.heap[H]? = some (.cells cs e (0, 0))) (hx : a.eval x = .slice (some ⟨H, 0, none⟩) m m) (hl : cs.size = m * size) (h1 : ∀ u ∈ cs.toList, u.oneCell' = true)
    (hm : 0 < m) (h63 : n + m ≤ 1099511627776) (hbytes : bytes ≤ 128) (hbase : base ≤ w.heap.size)
    (h : ∀ g cap w', w'.ownsRow base e size (.slice (some ⟨g, 0, none⟩) (n + m) cap) (n + m) (xs ++ cs.toList) → Below base w w' → w.grownBy w' (Value.slice A n c).ownBlock → g < w'.heap.size →
      K (a.put o.dst (.slice (some ⟨g, 0, none⟩) (n + m) cap)) w') : if Region.wanted o (yielded ops a.tmps) = true then Oper.wp P o a w K Q else E := by
  refine step_append_lies w hgd s x t ho base e i z size bytes ht hi hz hsize hby hzs hsz _ n xs hs hown ⟨H, 0, none⟩ m m cs.toList hx (by simpa using hl)
    (World.news_of_block hb) h1 hm (by unfold maxLen; omega) ?_ hbase _ rfl ?_
  · have : (n + m) * bytes ≤ 1099511627776 * 128 := Nat.mul_le_mul h63 hbytes
    omega
  · intro g cap w' h2 h3 _ h5
    exact h g cap w' h2 ((Below.refl _ _).grown h3 hbase fun k hk => (hown.lt k hk).1) h3 h5
end

section
variable {P : Program}
theorem own_form {w : World} {base : Nat} {e : TypeId} {size : Nat} {v : Value} {n : Nat} {xs : List Value} (h : w.ownsRow base e size v n xs) : ∃ G cap, v = .slice G n cap := by
  rcases h.2 with ⟨rfl, rfl⟩ | ⟨g, cap, cur, rfl, _⟩
  · exact ⟨none, 0, rfl⟩
  · exact ⟨_, _, rfl⟩
theorem run_append_src {w : World} (base : Nat) (t ty e : TypeId) (i : TypeInfo) (z : Value) (size bytes : Nat) (ht : P.underlying t = some (.slice e)) (hi : P.info? e = some i) (hz : i.zero = some z)
    (hsize : i.size = size) (hby : i.bytes = bytes) (hzs : z.cells.size = size) (hsz : 0 < size)
    (A : Option Addr) (n c : Nat) (xs : List Value) (hown : w.ownsRow base e size (.slice A n c) n xs) (B : Nat) (A' : Option Addr) (m c' : Nat) (news : List Value) (hr : Rd w B size A' m news) (h1 : ∀ u ∈ news, u.oneCell' = true)
    (h63 : n + m ≤ 1099511627776) (hbytes : bytes ≤ 128) (hbase : base ≤ w.heap.size) :
    ∃ G cap w', (Builtin.append_ #[t, t] ty #[.slice A n c, .slice A' m c']).run P w = .ok (.slice G (n + m) cap) w' ∧ w'.ownsRow base e size (.slice G (n + m) cap) (n + m) (xs ++ news) ∧ w.grownBy w' (Value.slice A n c).ownBlock := by
  have hbb : (n + m) * bytes ≤ 140737488355328 := by
    have : (n + m) * bytes ≤ 1099511627776 * 128 := Nat.mul_le_mul h63 hbytes
    omega
  cases A' with
  | none =>
    have hm : m = 0 := by
      rcases Nat.eq_zero_or_pos m with h0 | h0
      · exact h0
      · obtain ⟨b, off, h, _⟩ := hr.2 h0
        cases h
    subst hm
    have hn : news = [] := List.eq_nil_of_length_eq_zero (by simpa using hr.1)
    subst hn
    refine ⟨A, c, w, ?_, by simpa using hown, World.grownBy.refl w _⟩
    rcases hown.2 with ⟨hv, rfl⟩ | ⟨g, cap, cur, hv, _, _, hnc, _⟩
    · injection hv with hA _ hcc
      subst hA
      subst hcc
      simp [Builtin.append_, run_underlying ht, sizeOf, typeInfo, hi, Builtin.lenOf, Builtin.firstCells]
    · injection hv with hA _ hcc
      subst hA
      subst hcc
      simp [Builtin.append_, run_underlying ht, sizeOf, typeInfo, hi, Builtin.lenOf, Builtin.firstCells, hnc, storeCells]
  | some ad =>
    have hcells : ∀ j u, news[j]? = some u → w.cell? (ad.add j) = some u := by
      intro j u hu
      rcases Nat.eq_zero_or_pos m with h0 | h0
      · subst h0
        have hn : news = [] := List.eq_nil_of_length_eq_zero (by simpa using hr.1)
        subst hn
        simp at hu
      · obtain ⟨b, off, h, _, hc⟩ := hr.2 h0
        injection h with h
        subst h
        rw [Addr.add_lit]
        exact hc j u hu
    obtain ⟨v', w', hrun, h2, h3, _, _⟩ := run_append_own_at (P := P) w base t ty e i z size bytes ht hi hz hsize hby hzs hsz _ n xs hown ad m c' news hr.1 hcells h1 (by unfold maxLen; omega) hbb hbase
    obtain ⟨G, cap, rfl⟩ := own_form h2
    exact ⟨G, cap, w', hrun, h2, h3⟩
/-- 'append(out, list...)'. -/
theorem wpList_aps {ops : Array Oper} {rest : List Oper} {o : Oper} {a : Act} {Q : Exit → Act → World → Prop} (hgd : o.guard = none) (s x : Operand) (t : TypeId)
    (ho : o.op = .call { callee := .builtin .append, args := #[s, x], argTypes := #[t, t] })
    (base : Nat) (e : TypeId) (i : TypeInfo) (z : Value) (size bytes : Nat) (ht : P.underlying t = some (.slice e)) (hi : P.info? e = some i) (hz : i.zero = some z)
    (hsize : i.size = size) (hby : i.bytes = bytes) (hzs : z.cells.size = size) (hsz : 0 < size)
    (A : Option Addr) (n c : Nat) (xs : List Value) (w : World) (hs : a.eval s = .slice A n c) (hown : w.ownsRow base e size (.slice A n c) n xs) (B : Nat) (A' : Option Addr) (m c' : Nat) (news : List Value) (hx : a.eval x = .slice A' m c') (hr : Rd w B size A' m news) (h1 : ∀ u ∈ news, u.oneCell' = true)
    (h63 : n + m ≤ 1099511627776) (hbytes : bytes ≤ 128) (hbase : base ≤ w.heap.size)
    (h : ∀ G cap w', w'.ownsRow base e size (.slice G (n + m) cap) (n + m) (xs ++ news) → Below base w w' → w.grownBy w' (Value.slice A n c).ownBlock →
      wpList P ops Q rest (a.put o.dst (.slice G (n + m) cap)) w') : wpList P ops Q (o :: rest) a w := by
  refine wpList_plain hgd fun K hK => ?_
  obtain ⟨G, cap, w', hrun, h2, h3⟩ := run_append_src (P := P) base t o.type e i z size bytes ht hi hz hsize hby hzs hsz A n c xs hown B A' m c' news hr h1 h63 hbytes hbase
  unfold Oper.wp execOp
  simp only [ho, resolve, invoke, builtin, Sem.run_bind, Sem.run_pure, Result.andThen_ok, List.map_toArray, List.map_cons, List.map_nil, hs, hx, hrun]
  exact hK _ _ (h G cap w' h2 ((Below.refl _ _).grown h3 hbase fun k hk => (hown.lt k hk).1) h3)
end

theorem set_far {w : World} {b o g k : Nat} {v u : Value} (h : w.cell? ⟨b, o, none⟩ = some v) (hne : ¬ g = b) : (w.setCell ⟨g, k, none⟩ u).cell? ⟨b, o, none⟩ = some v :=
  (World.cell?_of_block (Below.heap_setCell w ⟨g, k, none⟩ u b (fun e => hne e.symm))).trans h
theorem set_far_f {w : World} {b o g k : Nat} {u : Value} (h : w.frozen? ⟨b, o, none⟩ = false) (hne : ¬ g = b) : (w.setCell ⟨g, k, none⟩ u).frozen? ⟨b, o, none⟩ = false :=
  (World.frozen?_of_block (Below.heap_setCell w ⟨g, k, none⟩ u b (fun e => hne e.symm))).trans h

theorem Ob.alloc {w : World} {lo hi : Nat} {e : TypeId} {size : Nat} {v : Value} {n : Nat} {xs : List Value} (h : Ob w lo hi e size v n xs) (o : Obj) : Ob (w.alloc o) lo hi e size v n xs := h.bs (ba (b0 _) _)
theorem cell_alloc {w : World} {b o : Nat} {v : Value} (h : w.cell? ⟨b, o, none⟩ = some v) (x : Obj) : (w.alloc x).cell? ⟨b, o, none⟩ = some v := cell_later (ba (b0 _) _) h

/-- A new block's cells; a cell, a mark of an older block behind a new one. -/
theorem cell_new {w : World} {cs : Array Value} {e : TypeId} {H j : Nat} {u : Value} (hH : H = w.heap.size) (h : cs[j]? = some u) : (w.alloc (.cells cs e)).cell? ⟨H, j, none⟩ = some u := by
  subst hH
  rw [cell_of_row _ _ j cs e (0, 0) (heap_alloc_new w _), h]
theorem froz_new {w : World} {cs : Array Value} {e : TypeId} {H j : Nat} (hH : H = w.heap.size) : (w.alloc (.cells cs e)).frozen? ⟨H, j, none⟩ = false := by
  subst hH
  simp
theorem froz_alloc {w : World} {b o : Nat} (h : w.frozen? ⟨b, o, none⟩ = false) (hb : b < w.heap.size) (x : Obj) : (w.alloc x).frozen? ⟨b, o, none⟩ = false :=
  ((ba (b0 w) x).frozen (p := ⟨b, o, none⟩) hb).trans h
theorem froz_later {w w' : World} {b o : Nat} (hb : Below w.heap.size w w') (h : w.frozen? ⟨b, o, none⟩ = false) (hl : b < w.heap.size) : w'.frozen? ⟨b, o, none⟩ = false := (hb.frozen (p := ⟨b, o, none⟩) hl).trans h
theorem cell_grown {w w' : World} {g b o : Nat} {v : Value} (hg : w.grownBy w' (some g)) (h : w.cell? ⟨b, o, none⟩ = some v) (hne : ¬ b = g) : w'.cell? ⟨b, o, none⟩ = some v :=
  (World.cell?_of_block (hg.block b (World.block_lt_of_cell? _ _ h) (fun e => hne (by injection e)))).trans h
theorem froz_grown {w w' : World} {g b o : Nat} (hg : w.grownBy w' (some g)) (h : w.frozen? ⟨b, o, none⟩ = false) (hb : b < w.heap.size) (hne : ¬ b = g) : w'.frozen? ⟨b, o, none⟩ = false :=
  (World.frozen?_of_block (hg.block b hb (fun e => hne (by injection e)))).trans h
/-- A quiet callee in a region that draws. -/
theorem quiet_l {P : Program} {f : FuncId} {args : Array Value} {w : World} {n : Nat} {v : Value}
    (h : Calls P f args (w.drewN n) fun e w' => e = .returned v ∧ w.drewN n = w') : Calls P f args (w.drewN n) fun e w'' => e = .returned v ∧ ∃ m, w'' = w.drewN m :=
  h.mono fun _ _ ⟨he, hm⟩ => ⟨he, n, hm.symm⟩
/-- A slice of one pair, read out of its two cells. -/
theorem rd_pair {w : World} {g : Nat} {a b : Int} (h0 : w.cell? ⟨g, 0, none⟩ = some (.int .i64 a)) (h1 : w.cell? ⟨g, 1, none⟩ = some (.int .i64 b)) : Rd w w.heap.size 2 (some ⟨g, 0, none⟩) [(a, b)].length (prs [(a, b)]) := by
  refine ⟨rfl, fun _ => ⟨g, 0, rfl, World.block_lt_of_cell? _ _ h0, fun j u hu => ?_⟩⟩
  match j with
  | 0 => simp [prs] at hu; subst hu; exact h0
  | 1 => simp [prs] at hu; subst hu; exact h1
  | j + 2 => simp [prs] at hu

end Go.Proofs.YtkmejkeanmjfbaaGreatDoor
