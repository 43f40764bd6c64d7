/- find of the reference: the first list of places that sorts the deck. -/
import Derived.Test.YtkcnahjgkhgebaaGreatSorts
import Derived.Test.YtkcnahjgkhgebaaGreatFewLaw
import Derived.Test.YtkcnahjgkhgebaaGreatPlan
import Derived.Deep.RegionLaw
import Derived.OneCell
namespace Go.Proofs.YtkcnahjgkhgebaaGreat
open Go.RowKit

/-! ### two blocks that turn -/
/-- Of the blocks of W only p and g may have turned. -/
structure Two (p g : Nat) (W w : World) : Prop where
  os : w.os = W.os
  tape : w.tape = W.tape
  output : w.output = W.output
  size : W.heap.size ≤ w.heap.size
  block : ∀ k, k < W.heap.size → k ≠ p → k ≠ g → w.heap[k]? = W.heap[k]?
theorem Two.refl (p g : Nat) (W : World) : Two p g W W := ⟨rfl, rfl, rfl, Nat.le_refl _, fun _ _ _ _ => rfl⟩
theorem Two.then {p g B : Nat} {W a b : World} (h : Two p g W a) (k : Below B a b) (hB : W.heap.size ≤ B) : Two p g W b :=
  ⟨k.os.trans h.os, k.tape.trans h.tape, k.output.trans h.output, Nat.le_trans h.size k.size, fun i hi h1 h2 => (k.block i (by omega)).trans (h.block i hi h1 h2)⟩
theorem Two.later {p g : Nat} {W a b : World} (h : Two p g W a) (k : Below a.heap.size a b) : Two p g W b := h.then k h.size
theorem Two.drew {p g : Nat} {W a : World} (h : Two p g W a) : Two p g W a.drew := ⟨h.os, h.tape, h.output, h.size, h.block⟩
theorem Two.set {p g : Nat} {W w : World} (h : Two p g W w) (o : Nat) (v : Value) : Two p g W (w.setCell ⟨p, o, none⟩ v) :=
  ⟨h.os, h.tape, h.output, by simpa [World.setCell] using h.size, fun k hk h1 h2 => (Below.heap_setCell w ⟨p, o, none⟩ v k h1).trans (h.block k hk h1 h2)⟩
theorem Two.grown {p g : Nat} {W a b : World} {row : Option Nat} (h : Two p g W a) (k : a.grownBy b row) (hr : ∀ r, row = some r → r = g ∨ W.heap.size ≤ r) : Two p g W b :=
  ⟨k.os.trans h.os, k.tape.trans h.tape, k.output.trans h.output, Nat.le_trans h.size k.size, fun i hi h1 h2 => (k.block i (Nat.lt_of_lt_of_le hi h.size) fun e => by
    rcases hr i e.symm with h3 | h3
    · exact h2 h3
    · omega).trans (h.block i hi h1 h2)⟩
theorem Two.below {p g B : Nat} {W w : World} (h : Two p g W w) (h1 : B ≤ p) (h2 : B ≤ g) (h3 : B ≤ W.heap.size) : Below B W w :=
  ⟨h.os, h.tape, h.output, h.size, fun k hk => h.block k (by omega) (by omega) (by omega)⟩
theorem Two.ob {p g lo hi : Nat} {e : TypeId} {size : Nat} {v : Value} {n : Nat} {xs : List Value} {W w : World} (h : Two p g W w) (o : Ob W lo hi e size v n xs) (h1 : p < lo ∨ hi ≤ p) (h2 : g < lo ∨ hi ≤ g) : Ob w lo hi e size v n xs := by
  refine ⟨?_, o.2⟩
  obtain ⟨⟨h3, h4⟩, h5⟩ := o
  refine ⟨h3, ?_⟩
  rcases h4 with h4 | ⟨g', cap, cur, hv, hg, hh, s⟩
  · exact .inl h4
  · have hgh := h5 g' (by rw [hv]; rfl)
    exact .inr ⟨g', cap, cur, hv, hg, (h.block g' (Array.getElem?_eq_some_iff.1 hh).1 (by omega) (by omega)).trans hh, s⟩

theorem grown_cell {w w' : World} {row : Option Nat} (hg : w.grownBy w' row) {p o : Nat} {v : Value} (h : w.cell? ⟨p, o, none⟩ = some v) (hne : ∀ k, row = some k → k ≠ p) : w'.cell? ⟨p, o, none⟩ = some v :=
  (World.cell?_of_block (hg.block p (World.block_lt_of_cell? _ _ h) (fun e => hne p e.symm rfl))).trans h
theorem grown_froz {w w' : World} {row : Option Nat} (hg : w.grownBy w' row) {p o : Nat} (h : w.frozen? ⟨p, o, none⟩ = false) (hl : p < w.heap.size) (hne : ∀ k, row = some k → k ≠ p) : w'.frozen? ⟨p, o, none⟩ = false :=
  (World.frozen?_of_block (hg.block p hl (fun e => hne p e.symm rfl))).trans h
section
variable {P : Program}
/-- append at a step of a region that draws its order; where the row lies behind it. -/
theorem step_ap2 {ops : Array Oper} {o : Oper} {a : Act} {K : Act → World → Prop} {Q : Exit → Act → World → Prop} {E : Prop} (hgd : o.guard = none) (s x : Operand) (t : TypeId)
    (ho : o.op = .call { callee := .builtin .append, args := #[s, x], argTypes := #[t, t] })
    (base : Nat) (e : TypeId) (i : TypeInfo) (z : Value) (size bytes : Nat) (ht : P.underlying t = some (.slice e)) (hi : P.info? e = some i) (hz : i.zero = some z)
    (hsize : i.size = size) (hby : i.bytes = bytes) (hzs : z.cells.size = size) (hsz : 0 < size)
    (A : Option Addr) (n c : Nat) (xs : List Value) (w : World) (hs : a.eval s = .slice A n c) (hown : w.ownsRow base e size (.slice A n c) n xs)
    (m : Nat) (cs : Array Value) (H : Nat) (hb : w.heap[H]? = some (.cells cs e (0, 0))) (hx : a.eval x = .slice (some ⟨H, 0, none⟩) m m) (hl : cs.size = m * size) (h1 : ∀ u ∈ cs.toList, u.oneCell' = true)
    (hm : 0 < m) (h63 : n + m ≤ 1099511627776) (hbytes : bytes ≤ 128) (hbase : base ≤ w.heap.size)
    (h : ∀ g cap w', w'.ownsRow base e size (.slice (some ⟨g, 0, none⟩) (n + m) cap) (n + m) (xs ++ cs.toList) → w.grownBy w' (Value.slice A n c).ownBlock → ((Value.slice A n c).ownBlock = some g ∨ g = w.heap.size) → g < w'.heap.size →
      K (a.put o.dst (.slice (some ⟨g, 0, none⟩) (n + m) cap)) w') : if Region.wanted o (yielded ops a.tmps) = true then Oper.wp P o a w K Q else E := by
  refine step_append_lies w hgd s x t ho base e i z size bytes ht hi hz hsize hby hzs hsz _ n xs hs hown ⟨H, 0, none⟩ m m cs.toList hx (by simpa using hl)
    (World.news_of_block hb) h1 hm (by unfold maxLen; omega) ?_ hbase _ rfl ?_
  · have : (n + m) * bytes ≤ 1099511627776 * 128 := Nat.mul_le_mul h63 hbytes
    omega
  · intro g cap w' h2 h3 h4 h5
    exact h g cap w' h2 h3 h4 h5
end

/-! ### the places' passes -/
def pickP (al : List (Int × Int)) (c : List Nat) : List (Int × Int) := c.map fun k => al.getD k (0, 0)
theorem pickP_length (al : List (Int × Int)) (c : List Nat) : (pickP al c).length = c.length := by simp [pickP]
/-- Do the passes at these places, behind those that are chosen, sort the deck? -/
def gdP (L T : List (List Int)) (al cur : List (Int × Int)) (c : List Nat) : Bool := decide (runL L (cur ++ pickP al c) = T)
theorem gdP_cons (L T : List (List Int)) (al cur : List (Int × Int)) (i : Nat) (c : List Nat) : gdP L T al cur (i :: c) = gdP L T al (cur ++ [al.getD i (0, 0)]) c := by
  unfold gdP pickP
  rw [List.map_cons, List.append_assoc]
  rfl
theorem find_zero (L T : List (List Int)) (al cur : List (Int × Int)) (n f : Nat) : (combs n 0 f).find? (gdP L T al cur) = if runL L cur = T then some [] else none := by
  simp only [combs, List.find?_cons, List.find?_nil]
  have e : gdP L T al cur [] = decide (runL L cur = T) := by unfold gdP pickP; simp
  rw [e]
  by_cases h : runL L cur = T
  · rw [if_pos h, decide_eq_true h]
  · rw [if_neg h, decide_eq_false h]
theorem combs_split {n m f : Nat} (h : f < n) : combs n (m + 1) f = (combs n m (f + 1)).map (f :: ·) ++ combs n (m + 1) (f + 1) := by
  simp only [combs]
  rw [show n - f = (n - (f + 1)) + 1 by omega, List.range'_succ, List.flatMap_cons]
theorem find_split {L T : List (List Int)} {al cur : List (Int × Int)} {n m f : Nat} (h : f < n) :
    (combs n (m + 1) f).find? (gdP L T al cur) = match (combs n m (f + 1)).find? (gdP L T al (cur ++ [al.getD f (0, 0)])) with
      | some c => some (f :: c)
      | none => (combs n (m + 1) (f + 1)).find? (gdP L T al cur) := by
  rw [combs_split h, List.find?_append, List.find?_map]
  have e : (gdP L T al cur) ∘ (fun x => f :: x) = gdP L T al (cur ++ [al.getD f (0, 0)]) := by
    funext c
    exact gdP_cons L T al cur f c
  rw [e]
  cases (combs n m (f + 1)).find? (gdP L T al (cur ++ [al.getD f (0, 0)])) with
  | none => rfl
  | some c => rfl
theorem find_end {L T : List (List Int)} {al cur : List (Int × Int)} {n m f : Nat} (h : n < f + (m + 1)) : (combs n (m + 1) f).find? (gdP L T al cur) = none := by
  rw [combs_none h]
  rfl

/-! ### the walk -/
/-- What lies behind the pointer p: the deck, the places, the plan, the part that is chosen. -/
structure FS (W w : World) (p g B : Nat) (D : Option Addr) (c : Nat) (hs : List Hd) (G : Option Addr) (cg : Nat) (zs : List Int) (A : Option Addr) (ca : Nat) (al : List (Int × Int)) (lz hz la ha : Nat) (cur : List (Int × Int)) : Prop where
  two : Two p g W w
  plt : p < W.heap.size
  glt : g < W.heap.size
  pB : B ≤ p
  gB : B ≤ g
  deck : RdD W B D hs
  zr : Ob W lz hz 2 1 (.slice G zs.length cg) zs.length (ints zs)
  ar : Ob W la ha 46 2 (.slice A al.length ca) al.length (prs al)
  zp : p < lz ∨ hz ≤ p
  zg : g < lz ∨ hz ≤ g
  ap : p < la ∨ ha ≤ p
  ag : g < la ∨ ha ≤ g
  c0 : w.cell? ⟨p, 0, none⟩ = some (.slice D hs.length c)
  c1 : w.cell? ⟨p, 1, none⟩ = some (.slice G zs.length cg)
  c2 : w.cell? ⟨p, 2, none⟩ = some (.slice A al.length ca)
  fr : w.frozen? ⟨p, 3, none⟩ = false
  part : ∃ P cp, w.cell? ⟨p, 3, none⟩ = some (.slice P cur.length cp) ∧ w.ownsRow B 46 2 (.slice P cur.length cp) cur.length (prs cur) ∧ ∀ k, (Value.slice P cur.length cp).ownBlock = some k → k ≠ p ∧ (k = g ∨ W.heap.size ≤ k)
section
variable {W w w' : World} {p g B : Nat} {D : Option Addr} {c : Nat} {hs : List Hd} {G : Option Addr} {cg : Nat} {zs : List Int} {A : Option Addr} {ca : Nat} {al : List (Int × Int)} {lz hz la ha : Nat} {cur : List (Int × Int)}
theorem FS.lt (h : FS W w p g B D c hs G cg zs A ca al lz hz la ha cur) : p < w.heap.size := World.block_lt_of_cell? _ _ h.c0
theorem FS.later (h : FS W w p g B D c hs G cg zs A ca al lz hz la ha cur) (hb : Below w.heap.size w w') : FS W w' p g B D c hs G cg zs A ca al lz hz la ha cur := by
  obtain ⟨P, cp, h1, h2, h3⟩ := h.part
  exact ⟨h.two.later hb, h.plt, h.glt, h.pB, h.gB, h.deck, h.zr, h.ar, h.zp, h.zg, h.ap, h.ag, cell_later hb h.c0, cell_later hb h.c1, cell_later hb h.c2, froz_later hb h.fr h.lt, P, cp, cell_later hb h1, own_bs h2 hb, h3⟩
theorem FS.rdeck (h : FS W w p g B D c hs G cg zs A ca al lz hz la ha cur) : RdD w w.heap.size D hs :=
  (h.deck.below (h.two.below h.pB h.gB (by have := h.plt; have := h.pB; omega))).more (by have := h.two.size; have := h.plt; have := h.pB; omega)
theorem FS.rzs (h : FS W w p g B D c hs G cg zs A ca al lz hz la ha cur) : Rd w w.heap.size 1 G zs.length (ints zs) := (h.two.ob h.zr h.zp h.zg).rd
theorem FS.app (h : FS W w p g B D c hs G cg zs A ca al lz hz la ha cur) {P : Option Addr} {cp : Nat} (h3 : ∀ k, (Value.slice P cur.length cp).ownBlock = some k → k ≠ p ∧ (k = g ∨ W.heap.size ≤ k)) {wa w3 : World} (hba : Below w.heap.size w wa) (hg3 : wa.grownBy w3 (Value.slice P cur.length cp).ownBlock)
    {gg cap : Nat} (hq : (Value.slice P cur.length cp).ownBlock = some gg ∨ gg = wa.heap.size) {x : Int × Int} (ho : w3.ownsRow B 46 2 (.slice (some ⟨gg, 0, none⟩) (cur.length + 1) cap) (cur.length + 1) (prs cur ++ [.int .i64 x.1, .int .i64 x.2]))
    {v : Value} (e3 : w3.cell? ⟨p, 3, none⟩ = some v) (e4 : w3.frozen? ⟨p, 3, none⟩ = false) : FS W (w3.setCell ⟨p, 3, none⟩ (.slice (some ⟨gg, 0, none⟩) (cur.length + 1) cap)) p g B D c hs G cg zs A ca al lz hz la ha (cur ++ [x]) := by
  have hk := fun k hk => (h3 k hk).1
  have hgp : gg ≠ p ∧ (gg = g ∨ W.heap.size ≤ gg) := by
    rcases hq with hq | hq
    · exact h3 gg hq
    · have := h.two.size
      have := hba.size
      have := h.plt
      omega
  have hlen : (cur ++ [x]).length = cur.length + 1 := by simp
  refine ⟨((h.two.later hba).grown hg3 fun r hr => (h3 r hr).2).set 3 _, h.plt, h.glt, h.pB, h.gB, h.deck, h.zr, h.ar, h.zp, h.zg, h.ap, h.ag, ?_, ?_, ?_, ?_, some ⟨gg, 0, none⟩, cap, ?_, ?_, ?_⟩
  · rw [World.cell?_setCell_other _ _ _ _ (by simp)]; exact grown_cell hg3 (cell_later hba h.c0) hk
  · rw [World.cell?_setCell_other _ _ _ _ (by simp)]; exact grown_cell hg3 (cell_later hba h.c1) hk
  · rw [World.cell?_setCell_other _ _ _ _ (by simp)]; exact grown_cell hg3 (cell_later hba h.c2) hk
  · simp [e4]
  · rw [hlen]; exact World.cell?_setCell_same _ _ _ e3
  · rw [hlen, prs_append]
    exact ownsRow_setCell_other ho (by simp only [Value.ownBlock]; intro e; injection e with e; exact hgp.1 e) _
  · intro k hk2
    simp only [Value.ownBlock, Option.some.injEq] at hk2
    subst hk2
    exact hgp
theorem FS.cut {x : Int × Int} (h : FS W w p g B D c hs G cg zs A ca al lz hz la ha (cur ++ [x])) {P : Option Addr} {cp : Nat} (h1 : w.cell? ⟨p, 3, none⟩ = some (.slice P (cur ++ [x]).length cp)) (ho : w.ownsRow B 46 2 (.slice P (cur ++ [x]).length cp) (cur ++ [x]).length (prs (cur ++ [x])))
    (h3 : ∀ k, (Value.slice P (cur ++ [x]).length cp).ownBlock = some k → k ≠ p ∧ (k = g ∨ W.heap.size ≤ k)) : FS W (w.setCell ⟨p, 3, none⟩ (.slice P cur.length cp)) p g B D c hs G cg zs A ca al lz hz la ha cur := by
  obtain ⟨gg, rfl, hg1, hg2⟩ := own_at ho (k := 0) (by simp)
  have hgp := h3 gg rfl
  refine ⟨h.two.set 3 _, h.plt, h.glt, h.pB, h.gB, h.deck, h.zr, h.ar, h.zp, h.zg, h.ap, h.ag, ?_, ?_, ?_, ?_, some ⟨gg, 0, none⟩, cp, ?_, ?_, ?_⟩
  · rw [World.cell?_setCell_other _ _ _ _ (by simp)]; exact h.c0
  · rw [World.cell?_setCell_other _ _ _ _ (by simp)]; exact h.c1
  · rw [World.cell?_setCell_other _ _ _ _ (by simp)]; exact h.c2
  · simp [h.fr]
  · exact World.cell?_setCell_same _ _ _ h1
  · have := own_short ho (j := cur.length) (by simp)
    rw [prs_take, List.take_left] at this
    exact ownsRow_setCell_other this (by simp only [Value.ownBlock]; intro e; injection e with e; exact hgp.1 e) _
  · intro k hk2
    simp only [Value.ownBlock, Option.some.injEq] at hk2
    subst hk2
    exact hgp
theorem FS.ral (h : FS W w p g B D c hs G cg zs A ca al lz hz la ha cur) : Rd w w.heap.size 2 A al.length (prs al) := (h.two.ob h.ar h.ap h.ag).rd
end

/-- What find hands back. -/
def FindPost (W : World) (p g B : Nat) (D : Option Addr) (c : Nat) (hs : List Hd) (G : Option Addr) (cg : Nat) (zs : List Int) (A : Option Addr) (ca : Nat) (al : List (Int × Int)) (lz hz la ha : Nat) (cur : List (Int × Int)) (m f : Nat) (e : Ending) (w' : World) : Prop :=
  match (combs al.length m f).find? (gdP (cards hs) (pickL (cards hs) zs) al cur) with
  | some d => e = .returned (.bool true) ∧ FS W w' p g B D c hs G cg zs A ca al lz hz la ha (cur ++ pickP al d)
  | none => e = .returned (.bool false) ∧ FS W w' p g B D c hs G cg zs A ca al lz hz la ha cur
/-- Behind the places f, .., i - 1. -/
def FnR (W : World) (p g B : Nat) (D : Option Addr) (c : Nat) (hs : List Hd) (G : Option Addr) (cg : Nat) (zs : List Int) (A : Option Addr) (ca : Nat) (al : List (Int × Int)) (lz hz la ha : Nat) (cur : List (Int × Int)) (m f : Nat) (wr : World) (q : Value) : Prop :=
  ∃ i : Nat, i ≤ al.length ∧ q = .int .i64 i ∧ FS W wr p g B D c hs G cg zs A ca al lz hz la ha cur ∧
    (combs al.length (m + 1) f).find? (gdP (cards hs) (pickL (cards hs) zs) al cur) = (combs al.length (m + 1) i).find? (gdP (cards hs) (pickL (cards hs) zs) al cur)

theorem passes_mk {W : Int} {ps : List (Int × Int)} (h : ∀ p ∈ ps, passOk W p = true) (hl : ps.length ≤ 40) : passesOk W ps = true := by
  have : ps.all (passOk W) = true := List.all_eq_true.2 h
  simp [passesOk, this, hl]

set_option maxRecDepth 20000 in
set_option maxHeartbeats 4000000 in
theorem find_zero_any (W : World) (p g B : Nat) (D : Option Addr) (c : Nat) (hs : List Hd) (G : Option Addr) (cg : Nat) (zs : List Int) (A : Option Addr) (ca : Nat) (al : List (Int × Int)) (lz hz la ha : Nat) (cur : List (Int × Int)) (f : Nat) (w : World) (h : FS W w p g B D c hs G cg zs A ca al lz hz la ha cur)
    (hok : deckOk (cards hs) = true) (hl : hs.length + tot hs ≤ 1048576) (hzn : zs.length = hs.length) (hzm : ∀ z ∈ zs, ∃ k : Nat, z = k ∧ k < (cards hs).length) (hcur : ∀ q ∈ cur, passOk (deckW (cards hs) : Int) q = true) (hlen : cur.length ≤ 40) :
    Calls Tryz.prog 26 #[.pointer (some ⟨p, 0, none⟩), .int .i64 (f : Int), .int .i64 0] w (FindPost W p g B D c hs G cg zs A ca al lz hz la ha cur 0 f) := by
  obtain ⟨P, cp, h1, h2, h3⟩ := h.part
  have c0 := h.c0
  have c1 := h.c1
  have c2 := h.c2
  have HP := Lib.hid (passes_mk hcur hlen)
  have rd := h.rdeck
  have rz := h.rzs
  have rp := Rd.own h2
  have HS := Lib.hid (fun W x y z => l08Sorts_any D c hs G cg zs P cp cur W x hok hl y hzn hzm z (by omega) HP.out)
  have HF := Lib.hid h
  have HPO := Lib.hid (show ∀ w', Below w.heap.size w w' → FindPost W p g B D c hs G cg zs A ca al lz hz la ha cur 0 f (.returned (.bool (decide (runL (cards hs) cur = pickL (cards hs) zs)))) w' from fun w' hb => by
    unfold FindPost
    rw [find_zero]
    by_cases hd : runL (cards hs) cur = pickL (cards hs) zs
    · rw [if_pos hd, decide_eq_true hd]
      refine ⟨rfl, ?_⟩
      have := h.later hb
      rwa [show cur ++ pickP al [] = cur by simp [pickP]]
    · rw [if_neg hd, decide_eq_false hd]
      exact ⟨rfl, h.later hb⟩)
  have l0 := fun x : Later w => lat_cell x c0
  have l1 := fun x : Later w => lat_cell x c1
  have l2 := fun x : Later w => lat_cell x c2
  have l3 := fun x : Later w => lat_cell x h1
  clear h hok hl hzn hzm hcur hlen h2 h3 c0 c1 c2 h1
  go_enter Tryz.func26, Tryz.ntmps26
  go_wp2_with fail
  refine wp_region_later (by kernel_rfl) (by kernel_rfl) ?_
  repeat (go_big_quiet_step ((go_at_call 47; exact lat_call (HS.out _ (rd.up (Later.below _)) (lat_rd _ rz) (lat_rd _ rp)))))
  refine wpQuiet_nil ?_
  intro w1 hb1
  clear l0 l1 l2 l3
  go_wp2
  go_ret
  exact HPO.out _ hb1

set_option maxRecDepth 20000 in
set_option maxHeartbeats 4000000 in
theorem find_any (W : World) (p g B : Nat) (D : Option Addr) (c : Nat) (hs : List Hd) (G : Option Addr) (cg : Nat) (zs : List Int) (A : Option Addr) (ca : Nat) (al : List (Int × Int)) (lz hz la ha : Nat)
    (hok : deckOk (cards hs) = true) (hl : hs.length + tot hs ≤ 1048576) (hzn : zs.length = hs.length) (hzm : ∀ z ∈ zs, ∃ k : Nat, z = k ∧ k < (cards hs).length) (hal : ∀ q ∈ al, passOk (deckW (cards hs) : Int) q = true) (haln : al.length ≤ 40) :
    ∀ (m : Nat) (cur : List (Int × Int)) (f : Nat) (w : World), FS W w p g B D c hs G cg zs A ca al lz hz la ha cur → (∀ q ∈ cur, passOk (deckW (cards hs) : Int) q = true) → cur.length + m ≤ 40 → f ≤ al.length →
      Calls Tryz.prog 26 #[.pointer (some ⟨p, 0, none⟩), .int .i64 (f : Int), .int .i64 (m : Int)] w (FindPost W p g B D c hs G cg zs A ca al lz hz la ha cur m f)
  | 0, cur, f, w, h, hcur, hlen, hf => find_zero_any W p g B D c hs G cg zs A ca al lz hz la ha cur f w h hok hl hzn hzm hcur (by omega)
  | m + 1, cur, f, w, h, hcur, hlen, hf => by
    obtain ⟨i0, hi, hz0, hz1, hz2⟩ := info_parts info_iPass
    have IH := Lib.hid (find_any W p g B D c hs G cg zs A ca al lz hz la ha hok hl hzn hzm hal haln m)
    have HAL := Lib.hid hal
    have HCUR := Lib.hid hcur
    obtain ⟨M, hM⟩ : ∃ M, M = m + 1 := ⟨_, rfl⟩
    have hM1 : 1 ≤ M := by omega
    have hMn : M ≤ 40 := by omega
    have HM := Lib.hid hM
    have e1 : ((m + 1 : Nat) : Int) = (M : Int) := by rw [hM]
    have hlM : cur.length + M ≤ 40 := by omega
    rw [e1]
    clear hok hl hzn hzm hal hcur hM e1 hlen
    have i0' : ((M : Int) == 0) = false := beq_f (by omega)
    go_enter Tryz.func26, Tryz.ntmps26
    go_wp2
    go_loopw [7, 8] (fun q _ wr => FnR W p g B D c hs G cg zs A ca al lz hz la ha cur m f wr q) (fun q _ _ => al.length - (intOf q).toNat)
    case atStart => exact ⟨f, hf, rfl, h, rfl⟩
    case round =>
      obtain ⟨wo, rfl⟩ : ∃ wo : World, wo = wr := ⟨_, rfl⟩
      obtain ⟨i, hin, rfl, hfs, hfi⟩ := hrel
      have HFI := Lib.hid hfi
      have HFS := Lib.hid hfs
      obtain ⟨P, cp, h1, h2, h3⟩ := hfs.part
      have c2 := hfs.c2
      have fr := hfs.fr
      have hlt := hfs.lt
      clear hfi hfs h
      by_cases hle : i + M ≤ al.length
      · have i1 : (i : Int) + (M : Int) ≤ (al.length : Int) := by omega
        have hil : i < al.length := by omega
        obtain ⟨bA, oA, hA, hbA, hac⟩ := HFS.out.ral.at_ hil
        have d1 := hac _ _ (prs_fst al i hil)
        have d2 := hac _ _ (prs_snd al i hil)
        rw [← Nat.add_assoc] at d2
        have h1a := cell_alloc h1 (.cells #[.int .i64 al[i].1, .int .i64 al[i].2] 46)
        have fra := froz_alloc fr hlt (.cells #[.int .i64 al[i].1, .int .i64 al[i].2] 46)
        have i2 : (i : Int) < (al.length : Int) := by omega
        subst hA
        clear hac
        have hnk : cur.length + 1 ≤ 1099511627776 := by omega
        have hbw : B ≤ wo.heap.size := by have := HFS.out.pB; omega
        have H3 := Lib.hid h3
        clear h3
        go_wp2_with fail
        go_region_law (first
          | (refine step_ap2 rfl (.tmp 45) (.tmp 53) 26 rfl B 46 i0 _ 2 16 Tryz.underlying26 hi hz0 hz1 hz2 rfl (by omega) P cur.length cp (prs cur) _ (by simp [Act.eval, Act.put]) (h2.alloc _) 1 #[.int .i64 al[i].1, .int .i64 al[i].2] wo.heap.size (heap_alloc_new wo _) (by simp [Act.eval, Act.put]) rfl (prs_one [al[i]]) (by omega) hnk (by omega) (by simp; omega) ?_; intro gg cap w3 hown3 hg3 hq3 hlt3; have e3 : w3.cell? ⟨p, 3, none⟩ = some (.slice P cur.length cp) := grown_cell hg3 h1a (fun k hk => (H3.out k hk).1); have e4 : w3.frozen? ⟨p, 3, none⟩ = false := grown_froz hg3 fra (by simp; omega) (fun k hk => (H3.out k hk).1)))
        all_goals
          have HFS2 := Lib.hid (HFS.out.app H3.out (ba (b0 _) _).drew hg3 hq3 (x := al[i]) hown3 e3 e4)
          clear hown3 hg3 hq3 hlt3 e3 e4 d1 d2 h1a fra h1 h2 c2 fr
          go_wp2_with fail
          rw [show (M : Int) - 1 = (m : Int) by have := HM.out; omega, show (i : Int) + 1 = ((i + 1 : Nat) : Int) by omega]
          refine (IH.out (cur ++ [al[i]]) (i + 1) _ HFS2.out (by
            intro q hq
            rcases List.mem_append.1 hq with hq | hq
            · exact HCUR.out q hq
            · rw [List.mem_singleton] at hq; rw [hq]; exact HAL.out _ (List.getElem_mem hil)) (by have := HM.out; simp; omega) (by omega)).mono ?_
          intro e w4 hpost
          have HSP := Lib.hid (find_split (L := cards hs) (T := pickL (cards hs) zs) (al := al) (cur := cur) (m := m) hil)
          have HGI := Lib.hid (show al.getD i (0, 0) = al[i] by simp [List.getD, hil])
          unfold FindPost at hpost
          cases hfnd : (combs al.length m (i + 1)).find? (gdP (cards hs) (pickL (cards hs) zs) al (cur ++ [al[i]])) with
          | some d =>
            rw [hfnd] at hpost
            obtain ⟨rfl, hfs4⟩ := hpost
            have HP := Lib.hid (show FindPost W p g B D c hs G cg zs (some ⟨bA, oA, none⟩) ca al lz hz la ha cur (m + 1) f (.returned (.bool true)) w4 by
              unfold FindPost
              have := HSP.out
              rw [HGI.out, hfnd] at this
              rw [HFI.out, this]
              refine ⟨rfl, ?_⟩
              have e : cur ++ pickP al (i :: d) = cur ++ [al[i]] ++ pickP al d := by
                unfold pickP
                rw [List.map_cons, HGI.out, List.append_assoc]
                rfl
              rw [e]
              exact hfs4)
            clear hfnd hfs4
            go_wp2
            go_ret
            exact HP.out
          | none =>
            rw [hfnd] at hpost
            obtain ⟨rfl, hfs4⟩ := hpost
            have HFI2 := Lib.hid (show (combs al.length (m + 1) f).find? (gdP (cards hs) (pickL (cards hs) zs) al cur) = (combs al.length (m + 1) (i + 1)).find? (gdP (cards hs) (pickL (cards hs) zs) al cur) by
              have := HSP.out
              rw [HGI.out, hfnd] at this
              rw [HFI.out, this])
            obtain ⟨P4, cp4, h41, h42, h43⟩ := hfs4.part
            have HFS4 := Lib.hid (hfs4.cut h41 h42 h43)
            have fr4 := hfs4.fr
            have hcp4 := (own_cap h42).1
            obtain ⟨N, hN⟩ : ∃ N, N = (cur ++ [al[i]]).length := ⟨_, rfl⟩
            rw [← hN] at h41 hcp4
            have hN2 : cur.length ≤ N := by rw [hN]; simp
            have hc4 : cur.length ≤ cp4 := by omega
            clear hfnd hfs4 h42 h43 hN
            go_wp2
            go_roundw
            case rel =>
              have P : FnR W p g B D c hs G cg zs (some ⟨bA, oA, none⟩) ca al lz hz la ha cur m f (w4.setCell ⟨p, 3, none⟩ (.slice P4 cur.length cp4)) (.int .i64 ((i : Int) + 1)) := ⟨i + 1, by omega, by go_num, HFS4.out, HFI2.out⟩
              first | exact P | exact ⟨_, P, rfl⟩ | exact ⟨_, _, P, rfl, rfl⟩ | exact ⟨_, _, _, P, rfl, rfl, rfl⟩ | exact ⟨_, _, _, _, P, rfl, rfl, rfl, rfl⟩ | exact ⟨_, _, _, _, _, P, rfl, rfl, rfl, rfl, rfl⟩ | exact ⟨_, _, _, _, _, _, P, rfl, rfl, rfl, rfl, rfl, rfl⟩ | exact ⟨_, _, _, _, _, _, _, P, rfl, rfl, rfl, rfl, rfl, rfl, rfl⟩ | exact ⟨_, _, _, _, _, _, _, _, P, rfl, rfl, rfl, rfl, rfl, rfl, rfl, rfl⟩
            case measure => (simp [intOf]; try omega)
      · have i1 : ¬ (i : Int) + (M : Int) ≤ (al.length : Int) := by omega
        have HE := Lib.hid (show (combs al.length (m + 1) i).find? (gdP (cards hs) (pickL (cards hs) zs) al cur) = none from find_end (by have := HM.out; omega))
        go_wp2
        go_ret
        unfold FindPost
        rw [HFI.out, HE.out]
        exact ⟨rfl, HFS.out⟩
end Go.Proofs.YtkcnahjgkhgebaaGreat
