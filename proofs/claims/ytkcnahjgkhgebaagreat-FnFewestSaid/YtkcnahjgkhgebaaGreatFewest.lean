/- FewestPasses in the reference. -/
import Derived.Test.YtkcnahjgkhgebaaGreatFewSp
import Derived.Test.YtkcnahjgkhgebaaGreatFullSorts
import Derived.Deep.DeepCutAuto
import Derived.Deep.RegionHeld3
namespace Go.Proofs.YtkcnahjgkhgebaaGreat
open Go.RowKit

/-! ### the plain law -/
/-- The least list of places of the full plan whose passes sort a deck. -/
def fewN (L : List (List Int)) (a b : Int) : List Nat := (bestB (planOf b (b - a).toNat).length (gdP L (sortedL L a b) (planOf b (b - a).toNat) []) (2 ^ (planOf b (b - a).toNat).length)).getD []
def fewC (L : List (List Int)) (a b : Int) : Int := if codeK L a b = 0 then (if 4 < b - a then 5 else 0) else codeK L a b
def fewR (L : List (List Int)) (a b : Int) : List (Int × Int) := if fewC L a b = 0 then pickP (planOf b (b - a).toNat) (fewN L a b) else []
theorem fewC_k {L : List (List Int)} {a b : Int} (h : codeK L a b ≠ 0) : fewC L a b = codeK L a b ∧ fewR L a b = [] := by
  have h1 : fewC L a b = codeK L a b := by unfold fewC; rw [if_neg h]
  exact ⟨h1, by unfold fewR; rw [if_neg (by rw [h1]; exact h)]⟩
theorem fewC_5 {L : List (List Int)} {a b : Int} (h : codeK L a b = 0) (h4 : 4 < b - a) : fewC L a b = 5 ∧ fewR L a b = [] := by
  have h1 : fewC L a b = 5 := by unfold fewC; rw [if_pos h, if_pos h4]
  exact ⟨h1, by unfold fewR; rw [if_neg (by rw [h1]; decide)]⟩
theorem fewC_0 {L : List (List Int)} {a b : Int} (h : codeK L a b = 0) (h4 : ¬ 4 < b - a) : fewC L a b = 0 ∧ fewR L a b = pickP (planOf b (b - a).toNat) (fewN L a b) := by
  have h1 : fewC L a b = 0 := by unfold fewC; rw [if_pos h, if_neg h4]
  exact ⟨h1, by unfold fewR; rw [if_pos h1]⟩
theorem pickP_all (al : List (Int × Int)) : pickP al (List.range al.length) = al := by
  unfold pickP
  apply List.ext_getElem
  · simp
  · intro k h1 h2
    simp [List.getD, List.getElem?_eq_getElem h2]
theorem asc_all (n : Nat) : Asc n 0 (List.range n) := ⟨List.pairwise_lt_range, fun x hx => ⟨Nat.zero_le _, List.mem_range.1 hx⟩⟩
theorem few_ex {L : List (List Int)} {i j : Nat} (hc : codeK L (i : Int) (j : Int) = 0) (hij : i < j) : ∃ c, Asc (planOf (j : Int) (j - i)).length 0 c ∧ gdP L (sortedL L (i : Int) (j : Int)) (planOf (j : Int) (j - i)) [] c = true := by
  obtain ⟨h1, h2, h3⟩ := codeK_zero hc
  have h4 := (fieldOk_true h2).2.2
  refine ⟨_, asc_all _, ?_⟩
  unfold gdP
  rw [pickP_all, List.nil_append]
  exact decide_eq_true (full_sorts h1 hij (by omega) h3)
theorem few_least {L : List (List Int)} {i j : Nat} (hc : codeK L (i : Int) (j : Int) = 0) (hij : i < j) : Least (planOf (j : Int) (j - i)).length (gdP L (sortedL L (i : Int) (j : Int)) (planOf (j : Int) (j - i)) []) (fewN L (i : Int) (j : Int)) := by
  have e : ((j : Int) - (i : Int)).toNat = j - i := by omega
  obtain ⟨c, h1, h2⟩ := bestB_least (few_ex hc hij)
  unfold fewN
  rw [e, h1]
  exact h2
/-- The first list that is found, shorter ones first. -/
theorem few_find {L : List (List Int)} {i j m : Nat} (hc : codeK L (i : Int) (j : Int) = 0) (hij : i < j) (hn : (planOf (j : Int) (j - i)).length ≤ 40)
    (h0 : ∀ k, k < m → (combs (planOf (j : Int) (j - i)).length k 0).find? (gdP L (sortedL L (i : Int) (j : Int)) (planOf (j : Int) (j - i)) []) = none) {c : List Nat}
    (h : (combs (planOf (j : Int) (j - i)).length m 0).find? (gdP L (sortedL L (i : Int) (j : Int)) (planOf (j : Int) (j - i)) []) = some c) : c = fewN L (i : Int) (j : Int) :=
  Least.unique hn (findC_least hn h0 h) (few_least hc hij)
theorem few_stop {L : List (List Int)} {i j m : Nat} (hc : codeK L (i : Int) (j : Int) = 0) (hij : i < j)
    (h0 : ∀ k, k < m → (combs (planOf (j : Int) (j - i)).length k 0).find? (gdP L (sortedL L (i : Int) (j : Int)) (planOf (j : Int) (j - i)) []) = none) : m ≤ (planOf (j : Int) (j - i)).length := by
  refine Classical.byContradiction fun hm => ?_
  have h1 := h0 (planOf (j : Int) (j - i)).length (by omega)
  have h2 := List.find?_eq_none.1 h1 (List.range (planOf (j : Int) (j - i)).length) (combs_mem.2 ⟨by simp, asc_all _⟩)
  apply h2
  obtain ⟨k1, k2, k3⟩ := codeK_zero hc
  have h4 := (fieldOk_true k2).2.2
  unfold gdP
  rw [pickP_all, List.nil_append]
  exact decide_eq_true (full_sorts k1 hij (by omega) k3)
theorem fewR_length (L : List (List Int)) (a b : Int) : (fewR L a b).length ≤ 40 := by
  unfold fewR
  by_cases h : fewC L a b = 0
  · rw [if_pos h, pickP_length]
    unfold fewC at h
    by_cases h1 : codeK L a b = 0
    · rw [if_pos h1] at h
      by_cases h2 : 4 < b - a
      · rw [if_pos h2] at h; cases h
      · obtain ⟨_, h4, _⟩ := codeK_zero h1
        obtain ⟨i, j, rfl, rfl, hij, _⟩ := fieldOk_nat h4
        have h5 := (few_least h1 hij).asc
        have h6 := bitsOf_hit _ _ h5
        obtain ⟨s, _, hs⟩ := h6
        rw [← hs]
        have := List.length_filter_le (fun k => s / 2 ^ k % 2 == 1) (List.range (planOf (j : Int) (j - i)).length)
        rw [List.length_range, planOf_length] at this
        unfold bitsOf
        rw [planOf_length]
        omega
    · rw [if_neg h1] at h; exact absurd h h1
  · rw [if_neg h]; simp
theorem plan_ok {W : Nat} {i j : Nat} (hij : i < j) (hj : j ≤ W) : ∀ q ∈ planOf (j : Int) (j - i), passOk (W : Int) q = true := by
  intro q hq
  have h1 := planOf_at hq
  have h2 := planOf_modes _ _ q hq
  unfold passOk
  rw [insideB_mk (by omega) (by omega)]
  unfold modeB
  rcases h2 with h2 | h2 <;> rw [h2] <;> rfl

/-! ### the walk -/
/-- Behind the pointer v: nothing is chosen yet. -/
def FewS (w2 : World) (B : Nat) (D : Option Addr) (c : Nat) (hs : List Hd) (zs : List Int) (al : List (Int × Int)) (v : Value) (wx : World) : Prop :=
  ∃ p g G cg A ca lz hz la ha, v = .pointer (some ⟨p, 0, none⟩) ∧ FS wx wx p g B D c hs G cg zs A ca al lz hz la ha [] ∧ Below w2.heap.size w2 wx

theorem FS.start {X : World} {p g B : Nat} {D : Option Addr} {c : Nat} {hs : List Hd} {G : Option Addr} {cg : Nat} {zs : List Int} {A : Option Addr} {ca : Nat} {al : List (Int × Int)} {lz hz la ha : Nat} (hp : p = X.heap.size) (hg : g < X.heap.size) (hB : B ≤ g) (deck : RdD X B D hs)
    (zr : Ob X lz hz 2 1 (.slice G zs.length cg) zs.length (ints zs)) (ar : Ob X la ha 46 2 (.slice A al.length ca) al.length (prs al)) (hzX : hz ≤ X.heap.size) (haX : ha ≤ X.heap.size) (zg : g < lz ∨ hz ≤ g) (ag : g < la ∨ ha ≤ g)
    (lit : X.ownsRow B 46 2 (.slice (some ⟨g, 0, none⟩) 0 0) 0 []) :
    FS (X.alloc (.cells #[.slice D hs.length c, .slice G zs.length cg, .slice A al.length ca, .slice (some ⟨g, 0, none⟩) 0 0] 60)) (X.alloc (.cells #[.slice D hs.length c, .slice G zs.length cg, .slice A al.length ca, .slice (some ⟨g, 0, none⟩) 0 0] 60)) p g B D c hs G cg zs A ca al lz hz la ha [] := by
  subst hp
  refine ⟨Two.refl _ _ _, by simp, by simp; omega, by omega, hB, deck.alloc (by omega) _, zr.alloc _, ar.alloc _, .inr hzX, zg, .inr haX, ag, cell_new rfl rfl, cell_new rfl rfl, cell_new rfl rfl, froz_new rfl, some ⟨g, 0, none⟩, 0, cell_new rfl rfl, ?_, ?_⟩
  · exact own_bs lit (ba (b0 _) _)
  · intro k hk
    simp only [Value.ownBlock, Option.some.injEq] at hk
    subst hk
    exact ⟨by omega, .inl rfl⟩
theorem lit_own (w : World) : (w.alloc (.cells #[] 46)).ownsRow w.heap.size 46 2 (.slice (some ⟨w.heap.size, 0, none⟩) 0 0) 0 [] := own_lit w #[] 0 rfl (Nat.le_refl _) (by omega) rfl

theorem FS.fresh {W w : World} {p g B : Nat} {D : Option Addr} {c : Nat} {hs : List Hd} {G : Option Addr} {cg : Nat} {zs : List Int} {A : Option Addr} {ca : Nat} {al : List (Int × Int)} {lz hz la ha : Nat} {cur : List (Int × Int)} (h : FS W w p g B D c hs G cg zs A ca al lz hz la ha cur) :
    FS W ((w.setCell ⟨p, 3, none⟩ (.slice (some ⟨w.heap.size, 0, none⟩) 0 0)).alloc (.cells #[] 46)) p g B D c hs G cg zs A ca al lz hz la ha [] := by
  obtain ⟨P, cp, h1, _, _⟩ := h.part
  have hlt := h.lt
  have hz := h.two.size
  have hp := h.plt
  have hpB := h.pB
  refine ⟨(h.two.set 3 _).later (ba (b0 _) _), h.plt, h.glt, h.pB, h.gB, h.deck, h.zr, h.ar, h.zp, h.zg, h.ap, h.ag, ?_, ?_, ?_, ?_, some ⟨w.heap.size, 0, none⟩, 0, ?_, ?_, ?_⟩
  · exact cell_alloc (by rw [World.cell?_setCell_other _ _ _ _ (by simp)]; exact h.c0) _
  · exact cell_alloc (by rw [World.cell?_setCell_other _ _ _ _ (by simp)]; exact h.c1) _
  · exact cell_alloc (by rw [World.cell?_setCell_other _ _ _ _ (by simp)]; exact h.c2) _
  · exact froz_alloc (by simp [h.fr]) (by simpa using hlt) _
  · exact cell_alloc (World.cell?_setCell_same _ _ _ h1) _
  · exact own_lit _ #[] 0 (by simp) (by simp; omega) (by omega) rfl
  · intro k hk
    simp only [Value.ownBlock, List.length_nil, Option.some.injEq] at hk
    subst hk
    exact ⟨by omega, .inr hz⟩
/-- Behind the lists of fewer than m places. -/
def FwR (W : World) (p g B : Nat) (D : Option Addr) (c : Nat) (hs : List Hd) (G : Option Addr) (cg : Nat) (zs : List Int) (A : Option Addr) (ca : Nat) (al : List (Int × Int)) (lz hz la ha : Nat) (wr : World) (q : Value) : Prop :=
  ∃ m : Nat, q = .int .i64 m ∧ FS W wr p g B D c hs G cg zs A ca al lz hz la ha [] ∧ ∀ k, k < m → (combs al.length k 0).find? (gdP (cards hs) (pickL (cards hs) zs) al []) = none

set_option maxRecDepth 20000 in
set_option maxHeartbeats 4000000 in
theorem spFewestPasses_any (D : Option Addr) (c : Nat) (hs : List Hd) (L : List (List Int)) (a b : Int) (w : World) (ha : RdD w w.heap.size D hs) (hL : cards hs = L) (hl : hs.length + tot hs ≤ 1048576) (_hc : hs.length ≤ c) :
    Calls Tryz.prog 6 #[.slice D hs.length c, .agg #[.int .i64 a, .int .i64 b]] w fun e w' => ∃ A cp, e = .returned (.tuple #[.slice A (fewR L a b).length cp, .int .i64 (fewC L a b)]) ∧
      w'.ownsRow w.heap.size 46 2 (.slice A (fewR L a b).length cp) (fewR L a b).length (prs (fewR L a b)) ∧ Below w.heap.size w w' := by
  subst hL
  have T0 : Below w.heap.size w (w.alloc (.cells #[.int .i64 a, .int .i64 b] 31)) := ba (b0 w) _
  have ra := ha.a1 (.cells #[.int .i64 a, .int .i64 b] 31)
  by_cases hz : codeK (cards hs) a b = 0
  · by_cases h4 : 4 < b - a
    · have HC := Lib.hid (fewC_5 hz h4)
      have HZ := Lib.hid hz
      obtain ⟨q1, q2, q3⟩ := fieldOk_true (codeK_zero hz).2.1
      have hw := deckOk_wid (codeK_zero hz).1
      clear hz
      go_enter Tryz.func6, Tryz.ntmps6
      go_wp2_with fail
      refine (l07Keys_any _ _ hs _ _ _ ra hl).mono ?_; rintro e w1 ⟨K, ck, rfl, hown, hb1⟩
      have k2 : w1.cell? ⟨w.heap.size, 0, none⟩ = some (.int .i64 a) := cell_later hb1 (cell_new rfl rfl)
      have k3 : w1.cell? ⟨w.heap.size, 1, none⟩ = some (.int .i64 b) := cell_later hb1 (cell_new rfl rfl)
      have e0 : codeK (cards hs) a b = 0 := HZ.out
      go_wp2
      go_ret2
      refine ⟨none, 0, ret_kk HC.out.1.symm (by rw [HC.out.2]; rfl), ?_, bs T0 hb1⟩
      rw [HC.out.2]
      exact World.ownsRow_nil _ _ _ _
    · obtain ⟨h1, h2, h3⟩ := codeK_zero hz
      obtain ⟨i, j, rfl, rfl, hij, hjw⟩ := fieldOk_nat h2
      have hw := deckOk_wid h1
      have HZ := Lib.hid hz
      have HN := Lib.hid (keysRes_0 hz)
      have HC := Lib.hid (fewC_0 hz h4)
      have H1 := Lib.hid h1
      have e1 : ((j : Int) - (i : Int)).toNat = j - i := by omega
      have HAL := Lib.hid (plan_ok (W := deckW (cards hs)) hij hjw)
      have HPL := Lib.hid (planOf_length (j : Int) (j - i))
      have HFI := Lib.hid (fun (m : Nat) (c : List Nat) => few_find (m := m) (c := c) hz hij (by rw [planOf_length]; omega))
      have HST := Lib.hid (fun (m : Nat) => few_stop (m := m) hz hij)
      have HKL := Lib.hid (show (keysRes (cards hs) (i : Int) (j : Int)).length = (cards hs).length by rw [HN.out, keysL_length])
      obtain ⟨n, hn⟩ : ∃ n, n = (keysRes (cards hs) (i : Int) (j : Int)).length := ⟨_, rfl⟩
      have HNL := Lib.hid (show (cards hs).length = n by rw [hn, HKL.out])
      have HCO := Lib.hid (fun K ck w => l07Places_any K ck n (cards hs) i j w HNL.out h1 hij hjw h3)
      have HCF := Lib.hid (fun w => l08Full_any (i : Int) (j : Int) w (by omega) (by omega) (by omega))
      rw [e1] at HCF HC
      have HMEM := Lib.hid (fun z (hz : z ∈ ordL (cards hs) (i : Int) (j : Int)) => ordL_mem hz)
      have HPK := Lib.hid (ordL_pick (cards hs) (i : Int) (j : Int))
      obtain ⟨zs, hzs⟩ : ∃ zs, zs = ordL (cards hs) (i : Int) (j : Int) := ⟨_, rfl⟩
      have HZL := Lib.hid (show zs.length = n by rw [hzs, ordL_length, HNL.out])
      have HN2 := Lib.hid hn
      rw [← hzs] at HMEM HCO HPK
      obtain ⟨al, hal⟩ : ∃ al, al = planOf (j : Int) (j - i) := ⟨_, rfl⟩
      have HALE := Lib.hid hal
      rw [← hal] at HAL HPL HCF HFI HST HC
      clear hz h1 h2 h3 e1 hzs hn hal
      go_enter Tryz.func6, Tryz.ntmps6
      go_wp2_with fail
      refine (l07Keys_any _ _ hs _ _ _ ra hl).mono ?_; rintro e w1 ⟨K, ck, rfl, hown0, hb1⟩
      have hrd := (Rd.own hown0)
      rw [← HN2.out, HN.out] at hrd
      rw [← HN2.out]
      have k2 : w1.cell? ⟨w.heap.size, 0, none⟩ = some (.int .i64 (i : Int)) := cell_later hb1 (cell_new rfl rfl)
      have k3 : w1.cell? ⟨w.heap.size, 1, none⟩ = some (.int .i64 (j : Int)) := cell_later hb1 (cell_new rfl rfl)
      have e0 : codeK (cards hs) (i : Int) (j : Int) = 0 := HZ.out
      have T1 := bs T0 hb1
      have ra1 := ra.up hb1
      clear hown0 hb1 ra
      have i4 : decide ((4 : Int) < (j : Int) - (i : Int)) = false := decide_eq_false (by omega)
      go_wp2_with fail
      go_cut [8] (fun v wx => FewS w1 w1.heap.size D c hs zs al v wx)
      case first =>
        go_region_held3 (fun w' => w'.cell? ⟨w.heap.size, 0, none⟩ = some (.int .i64 (i : Int)) ∧ w'.cell? ⟨w.heap.size, 1, none⟩ = some (.int .i64 (j : Int))) (first | exact ⟨k2, k3⟩ | exact ⟨cell_alloc k2 _, cell_alloc k3 _⟩ | go_keep)
          (first
            | (go_at_call 24; refine (HCO.out _ _ _ ?_).mono ?_; (first | exact hrd | exact hrd.drew | exact hrd.a1 _ | exact (hrd.a1 _).drew | exact (hrd.drew).a1 _); rintro e w2 ⟨G0, cg0, rfl, hoZ, hb2⟩; have BZ : Below w1.heap.size w1 w2 := (by first | exact bs (b0 w1) hb2 | exact bs (b0 w1).drew hb2 | exact bs (ba (b0 w1) _) hb2 | exact bs (ba (b0 w1) _).drew hb2); replace k2 := cell_later BZ k2; replace k3 := cell_later BZ k3)
            | (go_at_call 25; refine (HCF.out _).mono ?_; rintro e w3 ⟨F, cf, rfl, hoF, hb3⟩; have BF : Below w2.heap.size w2 w3 := (by first | exact bs (b0 w2) hb3 | exact bs (b0 w2).drew hb3 | exact bs (ba (b0 w2) _) hb3 | exact bs (ba (b0 w2) _).drew hb3); replace k2 := cell_later BF k2; replace k3 := cell_later BF k3))
        all_goals have HZC := Lib.hid HZL.out
        all_goals go_wp2_with fail
        all_goals go_meet
        · have OZ := Lib.hid (Ob.of (show w2.ownsRow w1.heap.size _ _ _ _ _ from hoZ))
          have OF := Lib.hid (Ob.of (show w3.ownsRow w2.heap.size _ _ _ _ _ from hoF))
          rw [← HZC.out] at OZ ⊢
          have z1 := BZ.size
          have z2 := BF.size
          exact ⟨_, w3.heap.size, G0, cg0, F, cf, w1.heap.size, w2.heap.size, w2.heap.size, w3.heap.size, rfl, FS.start (by simp) (by simp) (by omega) ((ra1.bs (Nat.le_refl _) (bs BZ BF)).alloc (by omega) _) ((OZ.out.bs BF).alloc _) (OF.out.alloc _) (by simp; omega) (by simp) (.inr z2) (.inr (Nat.le_refl _)) (own_base (lit_own w3) (by omega)), ba (ba (bs BZ BF) _) _⟩
        · have OZ := Lib.hid (Ob.of (show w2.ownsRow w1.heap.size _ _ _ _ _ from hoZ))
          have OF := Lib.hid (Ob.of hoF)
          have hb3' : Below (w2.alloc (.cells #[] 46)).heap.size (w2.alloc (.cells #[] 46)) w3 := ⟨hb3.os, hb3.tape, hb3.output, hb3.size, hb3.block⟩
          have LT := Lib.hid (own_bs (lit_own w2) hb3')
          rw [← HZC.out] at OZ ⊢
          have z1 := BZ.size
          have z2 := BF.size
          have z3 := hb3'.size
          have z4 : (w2.alloc (.cells #[] 46)).heap.size = w2.heap.size + 1 := by simp
          exact ⟨_, w2.heap.size, G0, cg0, F, cf, w1.heap.size, w2.heap.size, w2.heap.size + 1, w3.heap.size, rfl, FS.start rfl (by omega) (by omega) (ra1.bs (Nat.le_refl _) (bs BZ BF)) (OZ.out.bs BF) (OF.out.mono (by first | exact Nat.le_of_eq z4.symm | simp) (Nat.le_refl _)) (by omega) (Nat.le_refl _) (.inr (Nat.le_refl _)) (.inl (by omega)) (own_base LT.out (by omega)), ba (bs BZ BF) _⟩
        · have OZ := Lib.hid (Ob.of hoZ)
          have OF := Lib.hid (Ob.of (show w3.ownsRow w2.heap.size _ _ _ _ _ from hoF))
          have hb2' : Below (w1.alloc (.cells #[] 46)).heap.size (w1.alloc (.cells #[] 46)) w2 := ⟨hb2.os, hb2.tape, hb2.output, hb2.size, hb2.block⟩
          have LT := Lib.hid (own_bs (own_bs (lit_own w1) hb2') BF)
          rw [← HZC.out] at OZ ⊢
          have z1 := BZ.size
          have z2 := BF.size
          have z3 := hb2'.size
          have z4 : (w1.alloc (.cells #[] 46)).heap.size = w1.heap.size + 1 := by simp
          exact ⟨_, w1.heap.size, G0, cg0, F, cf, w1.heap.size + 1, w2.heap.size, w2.heap.size, w3.heap.size, rfl, FS.start rfl (by omega) (by omega) (ra1.bs (Nat.le_refl _) (bs BZ BF)) ((OZ.out.mono (by first | exact Nat.le_of_eq z4.symm | simp) (Nat.le_refl _)).bs BF) OF.out (by omega) (Nat.le_refl _) (.inl (by omega)) (.inl (by omega)) (own_base LT.out (by omega)), ba (bs BZ BF) _⟩
      obtain ⟨wd, hwd⟩ : ∃ x : World, x = wc := ⟨_, rfl⟩
      subst hwd
      obtain ⟨p, g, G, cg, A, ca, lz, hz, la, ha, rfl, hfs, hbc⟩ := hcut
      have HFS := Lib.hid hfs
      have HBC := Lib.hid hbc
      have hal8 : al.length ≤ 40 := by have := HPL.out; omega
      clear hfs hbc hrd k2 k3
      go_wp2
      go_loopw [9] (fun q wr => FwR wd p g w1.heap.size D c hs G cg zs A ca al lz hz la ha wr q) (fun q _ => al.length + 1 - (intOf q).toNat)
      case atStart => exact ⟨0, rfl, HFS.out, fun k hk => absurd hk (by omega)⟩
      case round =>
        obtain ⟨wo, rfl⟩ : ∃ wo : World, wo = wr := ⟨_, rfl⟩
        obtain ⟨m, rfl, hfs, hno⟩ := hrel
        have HNO := Lib.hid hno
        have hmn : m ≤ al.length := HST.out m (by rw [← HPK.out]; exact hno)
        have HF2 := Lib.hid (find_any wd p g _ D c hs G cg zs A ca al lz hz la ha H1.out hl (by rw [HZL.out, ← HNL.out, cards_length]) HMEM.out HAL.out hal8 m [] 0 wo hfs (by simp) (by simp; omega) (Nat.zero_le _))
        clear hno hfs
        go_wp2_with fail
        refine HF2.out.mono ?_
        intro e w4 hpost
        unfold FindPost at hpost
        cases hfnd : (combs al.length m 0).find? (gdP (cards hs) (pickL (cards hs) zs) al []) with
        | some d =>
          rw [hfnd] at hpost
          obtain ⟨rfl, hfs4⟩ := hpost
          have HD := Lib.hid (HFI.out m d (by rw [← HPK.out]; exact HNO.out) (by rw [← HPK.out]; exact hfnd))
          obtain ⟨P, cp, h1, h2, h3⟩ := hfs4.part
          have HE := Lib.hid (show fewR (cards hs) (i : Int) (j : Int) = [] ++ pickP al d by rw [HC.out.2, HD.out]; rfl)
          have H2 := Lib.hid h2
          have HBX := Lib.hid (hfs4.two.below hfs4.pB hfs4.gB (by have := hfs4.plt; have := hfs4.pB; omega))
          clear hfnd hfs4 h3 h2
          go_wp2
          go_ret2
          rw [HE.out]
          exact ⟨P, cp, ret_kk HC.out.1.symm rfl, own_base H2.out T1.size, T1.trans ((HBC.out.trans HBX.out).mono T1.size)⟩
        | none =>
          rw [hfnd] at hpost
          obtain ⟨rfl, hfs4⟩ := hpost
          have HNO2 := Lib.hid (show ∀ k, k < m + 1 → (combs al.length k 0).find? (gdP (cards hs) (pickL (cards hs) zs) al []) = none from fun k hk => by
            by_cases e : k = m
            · rw [e]; exact hfnd
            · exact HNO.out k (by omega))
          obtain ⟨P, cp, h1, h2, h3⟩ := hfs4.part
          have HFS4 := Lib.hid hfs4.fresh
          have fr := hfs4.fr
          have hlt := hfs4.lt
          have h1a := cell_alloc h1 (.cells #[] 46)
          have fra := froz_alloc fr hlt (.cells #[] 46)
          clear hfnd hfs4 h2 h3
          go_wp2
          go_roundw
          case rel =>
            have P : FwR wd p g w1.heap.size D c hs G cg zs A ca al lz hz la ha ((w4.setCell ⟨p, 3, none⟩ (.slice (some ⟨w4.heap.size, 0, none⟩) 0 0)).alloc (.cells #[] 46)) (.int .i64 ((m : Int) + 1)) := ⟨m + 1, by go_num, HFS4.out, HNO2.out⟩
            first | exact P | exact ⟨_, P, rfl⟩ | exact ⟨_, _, P, rfl, rfl⟩ | exact ⟨_, _, _, P, rfl, rfl, rfl⟩ | exact ⟨_, _, _, _, P, rfl, rfl, rfl, rfl⟩ | exact ⟨_, _, _, _, _, P, rfl, rfl, rfl, rfl, rfl⟩ | exact ⟨_, _, _, _, _, _, P, rfl, rfl, rfl, rfl, rfl, rfl⟩ | exact ⟨_, _, _, _, _, _, _, P, rfl, rfl, rfl, rfl, rfl, rfl, rfl⟩ | exact ⟨_, _, _, _, _, _, _, _, P, rfl, rfl, rfl, rfl, rfl, rfl, rfl, rfl⟩
          case measure => (simp [intOf]; try omega)
  · have HC := Lib.hid (fewC_k hz)
    have HZ := Lib.hid hz
    clear hz
    go_enter Tryz.func6, Tryz.ntmps6
    go_wp2_with fail
    refine (l07Keys_any _ _ hs _ _ _ ra hl).mono ?_; rintro e w1 ⟨K, ck, rfl, hown, hb1⟩
    have e0 : ¬ codeK (cards hs) a b = 0 := HZ.out
    go_wp2
    go_ret2
    refine ⟨none, 0, ret_kk HC.out.1.symm (by rw [HC.out.2]; rfl), ?_, bs T0 hb1⟩
    rw [HC.out.2]
    exact World.ownsRow_nil _ _ _ _
end Go.Proofs.YtkcnahjgkhgebaaGreat
