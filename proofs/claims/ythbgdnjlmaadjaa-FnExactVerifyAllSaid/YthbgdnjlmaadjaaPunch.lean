/- The code of keys for a program card, the card that is punched, and the first column that differs; in the program and in the reference. -/
import Derived.Test.YthbgdnjlmaadjaaKeyp
import Derived.Deep.RegionHeld3
namespace Go.Proofs.Ythbgdnjlmaadjaa
open Go.RowKit

/-! ### plain -/
def byC (s : ByteArray) (i : Nat) : UInt8 := (byt s).getD i 0
theorem byC_at {s : ByteArray} {i : Nat} (h : i < s.size) : byC s i = s[i] := by
  unfold byC
  have h2 : i < (byt s).length := by rw [byt_size]; exact h
  rw [List.getD_eq_getElem?_getD, List.getElem?_eq_getElem h2, byt_at s i h]
  rfl
/-- The code of a column's key. -/
def chkAt (s t : ByteArray) (i : Nat) : Int :=
  if keyN ((byC s i).toNat : Int) = true then (if chB (byC t (keysTo s i)) = true then (if ((byC s i).toNat : Int) = 110 ∧ digB ((byC t (keysTo s i)).toNat : Int) = false then 10 else 0) else 7) else 0
def chkO (s t : ByteArray) (i : Nat) : Option Int := if chkAt s t i = 0 then none else some (chkAt s t i)
def chkC (s t : ByteArray) : Int := if t.size = keysN s then (((List.range s.size).findSome? (chkO s t)).getD 0) else 5
def NoChk (s t : ByteArray) (k : Nat) : Prop := ∀ j, j < k → chkAt s t j = 0
theorem NoChk.zero (s t : ByteArray) : NoChk s t 0 := fun j h => absurd h (Nat.not_lt_zero j)
theorem NoChk.succ {s t : ByteArray} {k : Nat} (h : NoChk s t k) (hk : chkAt s t k = 0) : NoChk s t (k + 1) := by
  intro j hj
  rcases Nat.lt_succ_iff_lt_or_eq.1 hj with hj | rfl
  · exact h j hj
  · exact hk
theorem ff_some {α : Type} {f : Nat → Option α} {n k : Nat} {v : α} (hk : k < n) (hno : ∀ j, j < k → f j = none) (h : f k = some v) : (List.range n).findSome? f = some v := by
  induction n with
  | zero => omega
  | succ n ih =>
    rw [List.range_succ, List.findSome?_append]
    by_cases e : k = n
    · subst e
      have : (List.range k).findSome? f = none := by
        rw [List.findSome?_eq_none_iff]
        intro j hj
        exact hno j (List.mem_range.1 hj)
      rw [this]
      simp [h]
    · rw [ih (by omega)]
      rfl
theorem chk_some {s t : ByteArray} {k : Nat} {v : Int} (hz : t.size = keysN s) (hk : k < s.size) (hno : NoChk s t k) (h : chkAt s t k = v) (hv : v ≠ 0) : chkC s t = v := by
  unfold chkC
  rw [if_pos hz, ff_some hk (fun j hj => by unfold chkO; rw [if_pos (hno j hj)]) (show chkO s t k = some v by unfold chkO; rw [if_neg (by rw [h]; exact hv), h])]
  rfl
theorem chk_none {s t : ByteArray} (hz : t.size = keysN s) (hno : NoChk s t s.size) : chkC s t = 0 := by
  unfold chkC
  have : (List.range s.size).findSome? (chkO s t) = none := by
    rw [List.findSome?_eq_none_iff]
    intro j hj
    unfold chkO
    rw [if_pos (hno j (List.mem_range.1 hj))]
  rw [if_pos hz, this]
  rfl
theorem chk_len {s t : ByteArray} (hz : ¬ t.size = keysN s) : chkC s t = 5 := by unfold chkC; rw [if_neg hz]
theorem chk_zero {s t : ByteArray} (h : chkC s t = 0) : t.size = keysN s ∧ NoChk s t s.size := by
  by_cases hz : t.size = keysN s
  · refine ⟨hz, fun j hj => ?_⟩
    unfold chkC at h
    rw [if_pos hz] at h
    cases hf : (List.range s.size).findSome? (chkO s t) with
    | none =>
      have := List.findSome?_eq_none_iff.1 hf j (List.mem_range.2 hj)
      unfold chkO at this
      split at this
      · assumption
      · cases this
    | some v =>
      rw [hf] at h
      obtain ⟨i, _, hi⟩ := List.exists_of_findSome?_eq_some hf
      unfold chkO at hi
      split at hi
      · cases hi
      · rename_i h0
        injection hi with hi
        rw [hi] at h0
        exact absurd h h0
  · rw [chk_len hz] at h
    omega
/-- A column of the card that is punched. -/
def pchAt (s : ByteArray) (xs : List Int) (t : ByteArray) (i : Nat) : Int := if keyN ((byC s i).toNat : Int) = true then codeV (byC t (keysTo s i)).toNat else if ((byC s i).toNat : Int) = 100 then xs.getD i 0 else 0
def pchL (s : ByteArray) (xs : List Int) (t : ByteArray) : List Int := (List.range s.size).map (pchAt s xs t)
theorem pchL_length (s : ByteArray) (xs : List Int) (t : ByteArray) : (pchL s xs t).length = s.size := by simp [pchL]
theorem pchL_at {s : ByteArray} {xs : List Int} {t : ByteArray} {k : Nat} (h : k < (pchL s xs t).length) : (pchL s xs t)[k] = pchAt s xs t k := by simp [pchL]
def pchTo (s : ByteArray) (xs : List Int) (t : ByteArray) (k : Nat) : List Int := (pchL s xs t).take k ++ List.replicate (s.size - k) 0
theorem pchTo_zero (s : ByteArray) (xs : List Int) (t : ByteArray) : pchTo s xs t 0 = List.replicate s.size 0 := by simp [pchTo]
theorem pchTo_all (s : ByteArray) (xs : List Int) (t : ByteArray) : pchTo s xs t s.size = pchL s xs t := by
  unfold pchTo
  rw [List.take_of_length_le (by rw [pchL_length]; omega)]
  simp
theorem pchTo_length {s : ByteArray} {xs : List Int} {t : ByteArray} {k : Nat} (h : k ≤ s.size) : (pchTo s xs t k).length = s.size := by
  unfold pchTo
  rw [List.length_append, List.length_take, pchL_length, List.length_replicate]
  omega
theorem pchTo_set {s : ByteArray} {xs : List Int} {t : ByteArray} {k : Nat} {v : Int} (h : k < s.size) (hv : pchAt s xs t k = v) : (pchTo s xs t k).set k v = pchTo s xs t (k + 1) := by
  have hl : ((pchL s xs t).take k).length = k := by rw [List.length_take, pchL_length]; omega
  unfold pchTo
  rw [List.set_append_right _ _ (by omega), hl, Nat.sub_self, show s.size - k = (s.size - (k + 1)) + 1 by omega, List.replicate_succ, List.set_cons_zero,
    List.take_succ_eq_append_getElem (by rw [pchL_length]; exact h), pchL_at, hv, List.append_assoc]
  rfl
theorem pchTo_stay {s : ByteArray} {xs : List Int} {t : ByteArray} {k : Nat} (h : k < s.size) (hv : pchAt s xs t k = 0) : pchTo s xs t k = pchTo s xs t (k + 1) := by
  unfold pchTo
  rw [show s.size - k = (s.size - (k + 1)) + 1 by omega, List.replicate_succ, List.take_succ_eq_append_getElem (by rw [pchL_length]; exact h), pchL_at, hv, List.append_assoc]
  rfl
def pchR (s : ByteArray) (xs : List Int) (t : ByteArray) : List Int := if chkC s t = 0 then pchL s xs t else []
theorem pchR_0 {s : ByteArray} {xs : List Int} {t : ByteArray} (h : chkC s t = 0) : pchR s xs t = pchL s xs t := by unfold pchR; rw [if_pos h]
theorem pchR_1 {s : ByteArray} {xs : List Int} {t : ByteArray} (h : ¬ chkC s t = 0) : pchR s xs t = [] := by unfold pchR; rw [if_neg h]
/-- The four letters. -/
theorem letters {s : ByteArray} (h : progB s = true) {k : Nat} (hk : k < s.size) : (s[k].toNat : Int) = 109 ∨ (s[k].toNat : Int) = 110 ∨ (s[k].toNat : Int) = 115 ∨ (s[k].toNat : Int) = 100 := by
  simp only [progB, Bool.and_eq_true] at h
  have h2 := List.all_eq_true.1 h.1 ((byt s)[k]'(by rw [byt_size]; exact hk)) (List.getElem_mem _)
  rw [byt_at s k hk] at h2
  simp only [letC, letN, Bool.or_eq_true, beq_iff_eq] at h2
  exact h2
section
variable {s t : ByteArray} {xs : List Int} {k : Nat}
theorem at_dup (hk : k < s.size) (hx : xs.length = s.size) (h : (s[k].toNat : Int) = 100) : keyN (s[k].toNat : Int) = false ∧ chkAt s t k = 0 ∧ pchAt s xs t k = xs[k]'(by omega) := by
  have hn : keyN (s[k].toNat : Int) = false := by rw [h]; rfl
  refine ⟨hn, ?_, ?_⟩
  · unfold chkAt; rw [byC_at hk, hn]; rfl
  · unfold pchAt; rw [byC_at hk, hn, if_neg (by simp), if_pos h]; simp [List.getD, List.getElem?_eq_getElem (show k < xs.length by omega)]
theorem at_skip (hk : k < s.size) (h : (s[k].toNat : Int) = 115) : keyN (s[k].toNat : Int) = false ∧ chkAt s t k = 0 ∧ pchAt s xs t k = 0 := by
  have hn : keyN (s[k].toNat : Int) = false := by rw [h]; rfl
  refine ⟨hn, ?_, ?_⟩
  · unfold chkAt; rw [byC_at hk, hn]; rfl
  · unfold pchAt; rw [byC_at hk, hn, if_neg (by simp), if_neg (by omega)]
theorem at_key {q : Nat} (hqq : q = keysTo s k) (hk : k < s.size) (h : (s[k].toNat : Int) = 109 ∨ (s[k].toNat : Int) = 110) (hq : q < t.size) : keyN (s[k].toNat : Int) = true ∧ chkAt s t k = (if chB t[q] = true then (if (s[k].toNat : Int) = 110 ∧ digB (t[q].toNat : Int) = false then 10 else 0) else 7) ∧ pchAt s xs t k = codeV t[q].toNat := by
  subst hqq
  have hn : keyN (s[k].toNat : Int) = true := by rcases h with h | h <;> rw [h] <;> rfl
  refine ⟨hn, ?_, ?_⟩
  · unfold chkAt; rw [byC_at hk, byC_at hq, if_pos hn]
  · unfold pchAt; rw [byC_at hk, byC_at hq, if_pos hn]
end

/-- Behind k columns. -/
def PnR (s t : ByteArray) (xs : List Int) (A : Option Addr) (c g b3 : Nat) (w wq wr : World) (q9 q : Value) : Prop := ∃ k : Nat, k ≤ s.size ∧ q = .int .i64 k ∧ q9 = .int .i64 (keysTo s k : Nat) ∧ NoChk s t k ∧
  wr.ownsRow wq.heap.size 2 1 (.slice (some ⟨g, 0, none⟩) s.size s.size) s.size (ints (pchTo s xs t k)) ∧ wr.cell? ⟨w.heap.size, 0, none⟩ = some (.slice A s.size c) ∧ wr.cell? ⟨w.heap.size + 1, 0, none⟩ = some (.slice none 0 0) ∧
  wr.frozen? ⟨w.heap.size + 1, 0, none⟩ = false ∧ wr.cell? ⟨b3, 0, none⟩ = some (.slice (some ⟨g, 0, none⟩) s.size s.size) ∧ Below wq.heap.size wq wr ∧ b3 < wr.heap.size

set_option maxRecDepth 100000 in
set_option maxHeartbeats 8000000 in
theorem punched_any (s t : ByteArray) (A : Option Addr) (c : Nat) (xs : List Int) (w : World) (hp : progB s = true) (hx : xs.length = s.size) (ha : Rd w w.heap.size 1 A s.size (ints xs)) (ht : t.size ≤ 1048576) :
    Calls Try.prog 121 #[.string s, .agg #[.slice A s.size c], .string t] w fun e w' => ∃ B d, e = .returned (.tuple #[.agg #[.slice B (pchR s xs t).length d], .int .i64 (chkC s t)]) ∧
      w'.ownsRow w.heap.size 2 1 (.slice B (pchR s xs t).length d) (pchR s xs t).length (ints (pchR s xs t)) ∧ Below w.heap.size w w' := by
  obtain ⟨hs1, hs20⟩ := progB_len hp
  obtain ⟨W, hW⟩ : ∃ W, W = (w.alloc (.cells #[.slice A s.size c] 26)).alloc (.cells #[.slice none 0 0] 26) := ⟨_, rfl⟩
  have T0 : Below w.heap.size w W := by rw [hW]; exact ba (ba (b0 w) _) _
  have ra : Rd W W.heap.size 1 A s.size (ints xs) := by rw [hW]; exact (ha.a1 _).a1 _
  have k1 : W.cell? ⟨w.heap.size, 0, none⟩ = some (.slice A s.size c) := by rw [hW]; exact cell_alloc (cell_new rfl rfl) _
  have k2 : W.cell? ⟨w.heap.size + 1, 0, none⟩ = some (.slice none 0 0) := by rw [hW]; exact cell_new (by simp) rfl
  have f2 : W.frozen? ⟨w.heap.size + 1, 0, none⟩ = false := by rw [hW]; exact froz_new (by simp)
  have z0 : W.heap.size = w.heap.size + 1 + 1 := by rw [hW]; simp
  have HW := Lib.hid hW
  have HP := Lib.hid hp
  have HX := Lib.hid hx
  obtain ⟨K, hK⟩ : ∃ K, K = keysN s := ⟨_, rfl⟩
  have hK20 : K ≤ 20 := by have := keysN_le s; omega
  have HK := Lib.hid hK
  clear hW ha hp hx hK
  go_enter Try.func121, Try.ntmps121
  go_wp2_with fail
  rw [← HW.out]
  refine (keysNeeded_any s _ (by omega)).mono ?_
  rw [← HK.out]
  rintro e w1 ⟨rfl, rfl⟩
  by_cases hl : t.size = K
  · have i1 : ((t.size : Int) != (K : Int)) = false := bne_f (by omega)
    have HL := Lib.hid (show t.size = keysN s by rw [hl, HK.out])
    clear hl
    go_wp2_with fail
    refine (blank_any s.size _ (by omega)).mono ?_; rintro e w2 ⟨B, rfl, ho, hb2⟩
    obtain ⟨g, rfl, hg, hglt⟩ := own_at ho hs1
    have hgne : ¬ g = w2.heap.size := by omega
    have hgne1 : ¬ g = w.heap.size := by omega
    have hgne2 : ¬ g = w.heap.size + 1 := by omega
    have z2 := hb2.size
    have TB := ba hb2 (.cells #[.slice (some ⟨g, 0, none⟩) s.size s.size] 26)
    have ho3 := ho.alloc (.cells #[.slice (some ⟨g, 0, none⟩) s.size s.size] 26)
    have q1 := cell_later TB k1
    have q2 := cell_later TB k2
    have g2 := froz_later TB f2 (by omega)
    have HO3 := Lib.hid (show _ from ho3)
    clear ho hb2 i1
    go_wp2
    go_loopw [9, 10, 11] (fun q9 q _ wr => PnR s t xs A c g w2.heap.size w W wr q9 q) (fun _ q _ _ => s.size - (intOf q).toNat)
    case atStart => exact ⟨0, Nat.zero_le _, rfl, rfl, NoChk.zero _ _, by rw [pchTo_zero]; exact ho3, q1, q2, g2, cell_new rfl rfl, TB, by simp⟩
    case round =>
      obtain ⟨wo, rfl⟩ : ∃ wo : World, wo = wr := ⟨_, rfl⟩
      obtain ⟨k, hk, rfl, rfl, hno, hown, p1, p2, p2f, p3, hbw, hz7⟩ := hrel
      have HNO := Lib.hid hno
      clear hno q1 q2 g2 ho3
      by_cases hlt : k < s.size
      · have hkl : k < (ints (pchTo s xs t k)).length := by rw [ints_length, pchTo_length (by omega)]; exact hlt
        have c6 := own_cell hown k hkl
        have c7 := hown.frozenAt k
        have i1 : (k : Int) < (s.size : Int) := by omega
        have hsz := hbw.size
        have HST := Lib.hid (show ∀ v : Int, pchAt s xs t k = v → (wo.setCell ⟨g, k, none⟩ (.int .i64 v)).ownsRow W.heap.size 2 1 (.slice (some ⟨g, 0, none⟩) s.size s.size) s.size (ints (pchTo s xs t (k + 1))) from fun v hv => by
          rw [← pchTo_set hlt hv, ints_set]
          exact ownsRow_set hown k _)
        have HB := Lib.hid (show ∀ v : Int, Below W.heap.size W (wo.setCell ⟨g, k, none⟩ (.int .i64 v)) from fun v => bset hbw g k (.int .i64 v) hg)
        have P1 := Lib.hid p1
        have P2 := Lib.hid p2
        have P2F := Lib.hid p2f
        have P3 := Lib.hid p3
        have HREL := Lib.hid (show ∀ (v : Int) (wt : World) (q9 : Value), pchAt s xs t k = v → chkAt s t k = 0 → q9 = .int .i64 (keysTo s (k + 1) : Nat) → (wt = wo.setCell ⟨g, k, none⟩ (.int .i64 v) ∨ wt = (wo.setCell ⟨g, k, none⟩ (.int .i64 v)).drew) → PnR s t xs A c g w2.heap.size w W wt q9 (.int .i64 ((k : Int) + 1)) from fun v wt q9 hv hc hq hw => by
          have TX : Below (wo.setCell ⟨g, k, none⟩ (.int .i64 v)).heap.size (wo.setCell ⟨g, k, none⟩ (.int .i64 v)) wt := by
            rcases hw with rfl | rfl
            · exact b0 _
            · exact (b0 _).drew
          refine ⟨k + 1, by omega, by go_num, hq, HNO.out.succ hc, own_bs (HST.out v hv) TX, cell_later TX (set_far P1.out hgne1), cell_later TX (set_far P2.out hgne2), froz_later TX (set_far_f P2F.out hgne2) (by simp; omega), cell_later TX (set_far P3.out hgne), ?_, ?_⟩
          · exact (HB.out v).trans (TX.mono (by simp; omega))
          · have := TX.size
            simp at this
            omega)
        rcases letters HP.out hlt with h4 | h4 | h4 | h4
        · have n1 : ((s[k].toNat : Int) == 100) = false := beq_f (by omega)
          have n2 : ((s[k].toNat : Int) == 109) = true := beq_t (by omega)
          have n3 : ((s[k].toNat : Int) == 110) = false := beq_f (by omega)
          have hkn : keyN (s[k].toNat : Int) = true := by rw [h4]; rfl
          obtain ⟨q, hqq⟩ : ∃ q, q = keysTo s k := ⟨_, rfl⟩
          have hq : q < t.size := by rw [HL.out, hqq]; exact keysTo_lt hlt hkn
          have hq20 : q ≤ 20 := by have := keysTo_le s k; have := HK.out; omega
          have HAK := Lib.hid (at_key (xs := xs) hqq hlt (.inl h4) hq)
          have HH := Lib.hid h4
          have HKS := Lib.hid (show keysTo s (k + 1) = q + 1 by rw [keysTo_yes hlt hkn, hqq])
          rw [← hqq]
          have i2 : (q : Int) < (t.size : Int) := by omega
          have HE := Lib.hid (show (Value.int .i64 ((q : Int) + 1)) = .int .i64 (keysTo s (k + 1) : Nat) by rw [HKS.out]; rfl)
          clear hqq h4 hkn
          rcases Bool.eq_false_or_eq_true (chB t[q]) with hch | hch
          · have HCO := Lib.hid (show ∀ w : World, Calls Try.prog 91 #[.int .u8 (t[q].toNat : Int)] w fun e w' => e = .returned (.int .i64 (codeV t[q].toNat)) ∧ w = w' from fun w => codeOf_z t[q] _ w rfl hch)
            obtain ⟨v, hv⟩ : ∃ v, v = codeV t[q].toNat := ⟨_, rfl⟩
            rw [← hv] at HCO
            have HV := Lib.hid (show pchAt s xs t k = v by rw [hv]; exact HAK.out.2.2)
            have HCH := Lib.hid hch
            clear hv
            go_wp2_with fail
            refine (isCharacter_any t[q] _).mono ?_
            rw [HCH.out]
            rintro e w4 ⟨rfl, rfl⟩
            clear hch
            have HZ := Lib.hid (show chkAt s t k = 0 by rw [HAK.out.2.1, if_pos HCH.out, if_neg (by rw [HH.out]; simp)])
            go_wp2_with fail
            go_region_held3 (fun w' => w'.cell? ⟨w2.heap.size, 0, none⟩ = some (.slice (some ⟨g, 0, none⟩) s.size s.size)) (first | exact p3 | go_keep)
              (first
                | (go_at_call 91; refine (HCO.out _).mono ?_; rintro e w5 ⟨rfl, rfl⟩))
            all_goals
              go_wp2
              go_roundw
              case rel =>
                have P : ∀ wt, (wt = wo.setCell ⟨g, k, none⟩ (.int .i64 v) ∨ wt = (wo.setCell ⟨g, k, none⟩ (.int .i64 v)).drew) → PnR s t xs A c g w2.heap.size w W wt (.int .i64 ((q : Int) + 1)) (.int .i64 ((k : Int) + 1)) := fun wt hwt => HREL.out v wt _ HV.out HZ.out HE.out hwt
                first | exact P _ (.inl rfl) | exact P _ (.inr rfl) | exact ⟨_, P _ (.inr rfl), rfl⟩ | exact ⟨_, _, P _ (.inr rfl), rfl, rfl⟩
              case measure => (simp [intOf]; try omega)
          · have HZ := Lib.hid (show chkC s t = 7 from chk_some HL.out hlt HNO.out (by rw [HAK.out.2.1, if_neg (by rw [hch]; simp)]) (by omega))
            have HR1 := Lib.hid (pchR_1 (xs := xs) (show ¬ chkC s t = 0 by rw [HZ.out]; omega))
            have HCH := Lib.hid hch
            clear hch
            go_wp2_with fail
            refine (isCharacter_any t[q] _).mono ?_
            rw [HCH.out]
            rintro e w4 ⟨rfl, rfl⟩
            go_wp2
            refine bodyPost_ret (v := .tuple #[.agg #[.slice none 0 0], .int .i64 7]) (by simp [results, Try.results121, go_sem, *]) rfl ?_
            rw [HZ.out, HR1.out]
            exact ⟨none, 0, rfl, World.ownsRow_nil _ _ _ _, bset (bs T0 hbw) _ _ _ (by omega)⟩
        · have n1 : ((s[k].toNat : Int) == 100) = false := beq_f (by omega)
          have n2 : ((s[k].toNat : Int) == 109) = false := beq_f (by omega)
          have n3 : ((s[k].toNat : Int) == 110) = true := beq_t (by omega)
          have hkn : keyN (s[k].toNat : Int) = true := by rw [h4]; rfl
          obtain ⟨q, hqq⟩ : ∃ q, q = keysTo s k := ⟨_, rfl⟩
          have hq : q < t.size := by rw [HL.out, hqq]; exact keysTo_lt hlt hkn
          have hq20 : q ≤ 20 := by have := keysTo_le s k; have := HK.out; omega
          have HAK := Lib.hid (at_key (xs := xs) hqq hlt (.inr h4) hq)
          have HH := Lib.hid h4
          have HKS := Lib.hid (show keysTo s (k + 1) = q + 1 by rw [keysTo_yes hlt hkn, hqq])
          rw [← hqq]
          have i2 : (q : Int) < (t.size : Int) := by omega
          have HE := Lib.hid (show (Value.int .i64 ((q : Int) + 1)) = .int .i64 (keysTo s (k + 1) : Nat) by rw [HKS.out]; rfl)
          clear hqq h4 hkn
          rcases Bool.eq_false_or_eq_true (chB t[q]) with hch | hch
          · have HCO := Lib.hid (show ∀ w : World, Calls Try.prog 91 #[.int .u8 (t[q].toNat : Int)] w fun e w' => e = .returned (.int .i64 (codeV t[q].toNat)) ∧ w = w' from fun w => codeOf_z t[q] _ w rfl hch)
            obtain ⟨v, hv⟩ : ∃ v, v = codeV t[q].toNat := ⟨_, rfl⟩
            rw [← hv] at HCO
            have HV := Lib.hid (show pchAt s xs t k = v by rw [hv]; exact HAK.out.2.2)
            have HCH := Lib.hid hch
            clear hv
            go_wp2_with fail
            refine (isCharacter_any t[q] _).mono ?_
            rw [HCH.out]
            rintro e w4 ⟨rfl, rfl⟩
            clear hch
            rcases Bool.eq_false_or_eq_true (digB (t[q].toNat : Int)) with hdg | hdg
            · have HZ := Lib.hid (show chkAt s t k = 0 by rw [HAK.out.2.1, if_pos HCH.out, if_neg (by rw [hdg]; simp)])
              have HDG := Lib.hid hdg
              clear hdg
              go_wp2_with fail
              refine (isDigit_any (t[q].toNat : Int) _).mono ?_
              rw [HDG.out]
              rintro e w4 ⟨rfl, rfl⟩
              go_wp2_with fail
              go_region_held3 (fun w' => w'.cell? ⟨w2.heap.size, 0, none⟩ = some (.slice (some ⟨g, 0, none⟩) s.size s.size)) (first | exact p3 | go_keep)
                (first
                  | (go_at_call 91; refine (HCO.out _).mono ?_; rintro e w5 ⟨rfl, rfl⟩))
              all_goals
                go_wp2
                go_roundw
                case rel =>
                  have P : ∀ wt, (wt = wo.setCell ⟨g, k, none⟩ (.int .i64 v) ∨ wt = (wo.setCell ⟨g, k, none⟩ (.int .i64 v)).drew) → PnR s t xs A c g w2.heap.size w W wt (.int .i64 ((q : Int) + 1)) (.int .i64 ((k : Int) + 1)) := fun wt hwt => HREL.out v wt _ HV.out HZ.out HE.out hwt
                  first | exact P _ (.inl rfl) | exact P _ (.inr rfl) | exact ⟨_, P _ (.inr rfl), rfl⟩ | exact ⟨_, _, P _ (.inr rfl), rfl, rfl⟩
                case measure => (simp [intOf]; try omega)
            · have HZ := Lib.hid (show chkC s t = 10 from chk_some HL.out hlt HNO.out (by rw [HAK.out.2.1, if_pos HCH.out, if_pos ⟨HH.out, hdg⟩]) (by omega))
              have HR1 := Lib.hid (pchR_1 (xs := xs) (show ¬ chkC s t = 0 by rw [HZ.out]; omega))
              have HDG := Lib.hid hdg
              clear hdg
              go_wp2_with fail
              refine (isDigit_any (t[q].toNat : Int) _).mono ?_
              rw [HDG.out]
              rintro e w4 ⟨rfl, rfl⟩
              go_wp2
              refine bodyPost_ret (v := .tuple #[.agg #[.slice none 0 0], .int .i64 10]) (by simp [results, Try.results121, go_sem, *]) rfl ?_
              rw [HZ.out, HR1.out]
              exact ⟨none, 0, rfl, World.ownsRow_nil _ _ _ _, bset (bs T0 hbw) _ _ _ (by omega)⟩
          · have HZ := Lib.hid (show chkC s t = 7 from chk_some HL.out hlt HNO.out (by rw [HAK.out.2.1, if_neg (by rw [hch]; simp)]) (by omega))
            have HR1 := Lib.hid (pchR_1 (xs := xs) (show ¬ chkC s t = 0 by rw [HZ.out]; omega))
            have HCH := Lib.hid hch
            clear hch
            go_wp2_with fail
            refine (isCharacter_any t[q] _).mono ?_
            rw [HCH.out]
            rintro e w4 ⟨rfl, rfl⟩
            go_wp2
            refine bodyPost_ret (v := .tuple #[.agg #[.slice none 0 0], .int .i64 7]) (by simp [results, Try.results121, go_sem, *]) rfl ?_
            rw [HZ.out, HR1.out]
            exact ⟨none, 0, rfl, World.ownsRow_nil _ _ _ _, bset (bs T0 hbw) _ _ _ (by omega)⟩
        · have n1 : ((s[k].toNat : Int) == 100) = false := beq_f (by omega)
          have n2 : ((s[k].toNat : Int) == 109) = false := beq_f (by omega)
          have n3 : ((s[k].toNat : Int) == 110) = false := beq_f (by omega)
          obtain ⟨hkn, hz1, hz2⟩ := at_skip (t := t) (xs := xs) hlt h4
          have HKS := Lib.hid (keysTo_no hlt hkn)
          have HN2 := Lib.hid (HNO.out.succ hz1)
          have HPS := Lib.hid (pchTo_stay hlt hz2)
          clear h4 hz1 hz2 hkn
          go_wp2
          go_roundw
          case rel =>
            have P : PnR s t xs A c g w2.heap.size w W wo (.int .i64 (keysTo s k : Nat)) (.int .i64 ((k : Int) + 1)) := ⟨k + 1, by omega, by go_num, by rw [HKS.out], HN2.out, by rw [← HPS.out]; exact hown, p1, p2, p2f, p3, hbw, hz7⟩
            first | exact P | exact ⟨_, P, rfl⟩ | exact ⟨_, _, P, rfl, rfl⟩ | exact ⟨_, _, _, P, rfl, rfl, rfl⟩ | exact ⟨_, _, _, _, P, rfl, rfl, rfl, rfl⟩ | exact ⟨_, _, _, _, _, P, rfl, rfl, rfl, rfl, rfl⟩ | exact ⟨_, _, _, _, _, _, P, rfl, rfl, rfl, rfl, rfl, rfl⟩ | exact ⟨_, _, _, _, _, _, _, P, rfl, rfl, rfl, rfl, rfl, rfl, rfl⟩ | exact ⟨_, _, _, _, _, _, _, _, P, rfl, rfl, rfl, rfl, rfl, rfl, rfl, rfl⟩
          case measure => (simp [intOf]; try omega)
        · have n1 : ((s[k].toNat : Int) == 100) = true := beq_t (by omega)
          obtain ⟨hkn, hz1, hz2⟩ := at_dup (t := t) (xs := xs) hlt HX.out h4
          have hkx : k < xs.length := by rw [HX.out]; exact hlt
          obtain ⟨bz, oz, hA, hbz, hcz⟩ := (ra.up hbw).at_ hlt
          subst hA
          have d1 := hcz k _ (ints_get xs k hkx)
          obtain ⟨v, hv⟩ : ∃ v, v = xs[k] := ⟨_, rfl⟩
          rw [← hv] at d1 hz2
          have HKS := Lib.hid (keysTo_no hlt hkn)
          have HZ1 := Lib.hid hz1
          have HV := Lib.hid hz2
          clear h4 hz1 hz2 hkn hcz hv
          go_wp2
          go_region
          all_goals
            go_wp2
            go_roundw
            case rel =>
              have P : ∀ wt, (wt = wo.setCell ⟨g, k, none⟩ (.int .i64 v) ∨ wt = (wo.setCell ⟨g, k, none⟩ (.int .i64 v)).drew) → PnR s t xs (some ⟨bz, oz, none⟩) c g w2.heap.size w W wt (.int .i64 (keysTo s k : Nat)) (.int .i64 ((k : Int) + 1)) := fun wt hwt => HREL.out v wt _ HV.out HZ1.out (by rw [HKS.out]) hwt
              first | exact P _ (.inl rfl) | exact P _ (.inr rfl) | exact ⟨_, P _ (.inr rfl), rfl⟩ | exact ⟨_, _, P _ (.inr rfl), rfl, rfl⟩
            case measure => (simp [intOf]; try omega)
      · obtain rfl : k = s.size := by omega
        have HZ := Lib.hid (chk_none HL.out HNO.out)
        have HR0 := Lib.hid (pchR_0 (xs := xs) HZ.out)
        have HRL := Lib.hid (pchL_length s xs t)
        have hown2 := hown
        rw [pchTo_all] at hown2
        clear hown
        go_wp2
        refine bodyPost_ret (v := .tuple #[.agg #[.slice (some ⟨g, 0, none⟩) s.size s.size], .int .i64 0]) (by simp [results, Try.results121, go_sem, *]) rfl ?_
        rw [HZ.out, HR0.out, HRL.out]
        exact ⟨_, _, rfl, own_base (own_below hown2 _ _ _ (by omega)) (by omega), bset (bs T0 hbw) _ _ _ (by omega)⟩
  · have i1 : ((t.size : Int) != (K : Int)) = true := bne_t (by omega)
    have HZ := Lib.hid (show chkC s t = 5 from chk_len (by have := HK.out; omega))
    have HR1 := Lib.hid (pchR_1 (xs := xs) (show ¬ chkC s t = 0 by rw [HZ.out]; omega))
    go_wp2
    refine bodyPost_ret (v := .tuple #[.agg #[.slice none 0 0], .int .i64 5]) (by simp [results, Try.results121, go_sem, *]) rfl ?_
    rw [HZ.out, HR1.out]
    exact ⟨none, 0, rfl, World.ownsRow_nil _ _ _ _, bset T0 _ _ _ (by omega)⟩
end Go.Proofs.Ythbgdnjlmaadjaa
