/- SelectBetween, SelectEqual; in the program and in the reference. -/
import Derived.Test.YtabdlbaonjhnnaaAsk
import Derived.Test.YtabdlbaonjhnnaaDelCard
import Derived.Test.YtabdlbaonjhnnaaRunLaw
namespace Go.Proofs.Ytabdlbaonjhnnaa
open Go.RowKit

theorem rd_str1 {w : World} {g : Nat} {s : ByteArray} (h0 : w.cell? ⟨g, 0, none⟩ = some (.string s)) : Rd w w.heap.size 1 (some ⟨g, 0, none⟩) [s].length (strv [s]) := by
  refine ⟨rfl, fun _ => ⟨g, 0, rfl, World.block_lt_of_cell? _ _ h0, fun j u hu => ?_⟩⟩
  match j with
  | 0 => simp [strv] at hu; subst hu; exact h0
  | j + 1 => simp [strv] at hu
theorem rd_str2 {w : World} {g : Nat} {s t : ByteArray} (h0 : w.cell? ⟨g, 0, none⟩ = some (.string s)) (h1 : w.cell? ⟨g, 1, none⟩ = some (.string t)) : Rd w w.heap.size 1 (some ⟨g, 0, none⟩) [s, t].length (strv [s, t]) := by
  refine ⟨rfl, fun _ => ⟨g, 0, rfl, World.block_lt_of_cell? _ _ h0, fun j u hu => ?_⟩⟩
  match j with
  | 0 => simp [strv] at hu; subst hu; exact h0
  | 1 => simp [strv] at hu; subst hu; exact h1
  | j + 2 => simp [strv] at hu
theorem collateT_any (a b : Int) (TA : Option Addr) (ct : Nat) (ts : List ByteArray) (g : Nat) (D : Option Addr) (c : Nat) (hs : List Hd) (w : World) (h : w.cell? ⟨g, 0, none⟩ = some (.slice D hs.length c)) (ha : RdD w w.heap.size D hs) (hc : hs.length ≤ c) (hl : hs.length + tot hs ≤ 1048576)
    (hta : Rd w w.heap.size 1 TA ts.length (strv ts)) (htl : ts.length ≤ 1048576) (hts : ∀ k (h : k < ts.length), ts[k].size ≤ 1048576) :
    Calls Try.prog 74 #[.agg #[.int .i64 a, .int .i64 b], .bool true, .slice TA ts.length ct, .slice (some ⟨g, 0, none⟩) 1 1] w fun e w' => e = .returned (.int .i64 (colC [cards hs] true ts a b)) ∧ Below w.heap.size w w' :=
  collateCode_any a b TA ct ts (some ⟨g, 0, none⟩) 1 [⟨D, c, hs, 0, 0⟩] w (rdd_one h ha hc) (by simp) (by simp) (fun k hk => by simp at hk; subst hk; exact hl) hta htl hts
theorem colC_zero {L : List (List Int)} {ts : List ByteArray} {a b : Int} (h : colC [L] true ts a b = 0) : codeK L a b = 0 ∧ ts.all (lenB a b) = true ∧ ts.all chaB = true := by
  by_cases h0 : codeK L a b = 0 ∨ codeK L a b = 8
  · rcases Bool.eq_false_or_eq_true (ts.all (lenB a b)) with h1 | h1
    · rcases Bool.eq_false_or_eq_true (ts.all chaB) with h2 | h2
      · rw [col_k8 h0 h1 h2] at h
        exact ⟨h, h1, h2⟩
      · rw [col_k7 h0 h1 h2] at h; omega
    · rw [col_k3 h0 h1] at h; omega
  · have h1 : codeK L a b ≠ 0 := fun e => h0 (.inl e)
    rw [col_k1 h1 (fun e => h0 (.inr e))] at h
    exact absurd h h1
/-- The cards that are struck out. -/
def selB (s t : ByteArray) (a b : Int) (x : List Int) : Bool := decide (cmpT (textL (part x a b)) (byt s) < 0) || decide (0 < cmpT (textL (part x a b)) (byt t))
def selRes (L : List (List Int)) (a b : Int) (s t : ByteArray) : List (List Int) := if colC [L] true [s, t] a b = 0 then keep (selB s t a b) L else []
theorem selRes_0 {L : List (List Int)} {a b : Int} {s t : ByteArray} (h : colC [L] true [s, t] a b = 0) : selRes L a b s t = keep (selB s t a b) L := by unfold selRes; rw [if_pos h]
theorem selRes_1 {L : List (List Int)} {a b : Int} {s t : ByteArray} (h : colC [L] true [s, t] a b ≠ 0) : selRes L a b s t = [] := by unfold selRes; rw [if_neg h]
theorem sub_bound2 {M L : List (List Int)} (hs : ∀ x ∈ M, x ∈ L) (hn : M.length ≤ 40) (ho : deckOk L = true) {gs : List Hd} (h : cards gs = M) : gs.length + tot gs ≤ 840 := by
  subst h
  have := deckOk_sum (deckOk_sub hs hn ho)
  rwa [cards_length, ← tot_of_cards (gs := gs) rfl] at this
theorem keep_bound {L : List (List Int)} (p : List Int → Bool) (ho : deckOk L = true) {gs : List Hd} (h : cards gs = keep p L) : gs.length + tot gs ≤ 840 :=
  sub_bound2 (fun x hx => (List.mem_filter.1 hx).1) (Nat.le_trans (List.length_filter_le _ _) (deckOk_len ho)) ho h
theorem nil_bound {gs : List Hd} (h : cards gs = []) : gs.length + tot gs ≤ 840 := by
  have : gs = [] := by
    cases gs with
    | nil => rfl
    | cons x gs => simp [cards] at h
  subst this
  simp [tot]
theorem selRes_bound (L : List (List Int)) (a b : Int) (s t : ByteArray) {gs : List Hd} (h : cards gs = selRes L a b s t) : gs.length + tot gs ≤ 840 := by
  by_cases hz : colC [L] true [s, t] a b = 0
  · rw [selRes_0 hz] at h
    exact keep_bound _ (codeK_zero (colC_zero hz).1).1 h
  · rw [selRes_1 hz] at h
    exact nil_bound h

set_option maxHeartbeats 2000000 in
theorem SelectBetween1_any (bf bl bh : Nat) (A : Option Addr) (c : Nat) (xs : List Int) (s t : ByteArray) (i j : Nat) (w : World) (h1 : w.cell? ⟨bf, 0, none⟩ = some (.int .i64 (i : Int))) (h2 : w.cell? ⟨bf, 1, none⟩ = some (.int .i64 (j : Int))) (h3 : w.cell? ⟨bl, 0, none⟩ = some (.string s)) (h4 : w.cell? ⟨bh, 0, none⟩ = some (.string t))
    (ha : Rd w w.heap.size 1 A xs.length (ints xs)) (hij : i < j) (hj : j ≤ xs.length) (hc : xs.length ≤ c) (hl : xs.length ≤ 1048576) (hlx : legalL (part xs (i : Int) (j : Int)) = true) (hs : s.size = j - i) (ht : t.size = j - i) (hsc : chaB s = true) (htc : chaB t = true) :
    Calls Try.prog 77 #[.agg #[.slice A xs.length c], .pointer (some ⟨bf, 0, none⟩), .pointer (some ⟨bl, 0, none⟩), .pointer (some ⟨bh, 0, none⟩)] w fun e w' => e = .returned (.bool (selB s t (i : Int) (j : Int) xs)) ∧ Below w.heap.size w w' := by
  obtain ⟨y, hy⟩ : ∃ y, y = cmpT (textL (part xs (i : Int) (j : Int))) (byt s) := ⟨_, rfl⟩
  obtain ⟨z, hz⟩ : ∃ z, z = cmpT (textL (part xs (i : Int) (j : Int))) (byt t) := ⟨_, rfl⟩
  have HY := Lib.hid hy
  have HZ := Lib.hid hz
  have HB := Lib.hid (show selB s t (i : Int) (j : Int) xs = (decide (y < 0) || decide (0 < z)) by rw [hy, hz]; rfl)
  have HS := Lib.hid hs
  have HT := Lib.hid ht
  have HSC := Lib.hid hsc
  have HTC := Lib.hid htc
  have HLX := Lib.hid hlx
  have k1 := cell_alloc h1 (.cells #[.slice A xs.length c] 62)
  have k2 := cell_alloc h2 (.cells #[.slice A xs.length c] 62)
  have k3 := cell_alloc h3 (.cells #[.slice A xs.length c] 62)
  have k4 := cell_alloc h4 (.cells #[.slice A xs.length c] 62)
  have ra := ha.a1 (.cells #[.slice A xs.length c] 62)
  have k5 : World.cell? (w.alloc (.cells #[.slice A xs.length c] 62)) ⟨w.heap.size, 0, none⟩ = some (.slice A xs.length c) := cell_new rfl rfl
  have T0 : Below w.heap.size w (w.alloc (.cells #[.slice A xs.length c] 62)) := ba (b0 w) _
  clear hy hz hs ht hsc htc hlx h1 h2 h3 h4 ha
  by_cases hp : y < 0
  · go_enter Try.func77, Try.ntmps77
    go_wp2_with fail
    refine (compareText_any A c xs s i j y _ HY.out ra hij hj hc hl HLX.out HS.out HSC.out).mono ?_; rintro e w1 ⟨rfl, hb1⟩
    go_wp2
    go_ret
    exact ⟨ret_bool (by rw [HB.out, decide_eq_true hp]; rfl), bs T0 hb1⟩
  · go_enter Try.func77, Try.ntmps77
    go_wp2_with fail
    refine (compareText_any A c xs s i j y _ HY.out ra hij hj hc hl HLX.out HS.out HSC.out).mono ?_; rintro e w1 ⟨rfl, hb1⟩
    replace k1 := cell_later hb1 k1
    replace k2 := cell_later hb1 k2
    replace k4 := cell_later hb1 k4
    replace k5 := cell_later hb1 k5
    go_wp2_with fail
    refine (compareText_any A c xs t i j z _ HZ.out (ra.up hb1) hij hj hc hl HLX.out HT.out HTC.out).mono ?_; rintro e w2 ⟨rfl, hb2⟩
    go_wp2
    go_ret
    exact ⟨ret_bool HB.out.symm, bs (bs T0 hb1) hb2⟩

theorem lenB_nat {i j : Nat} {t : ByteArray} (hij : i < j) (h : lenB (i : Int) (j : Int) t = true) : t.size = j - i := by
  have : (t.size : Int) = (j : Int) - (i : Int) := eq_of_beq h
  omega
set_option maxRecDepth 20000 in
set_option maxHeartbeats 4000000 in
theorem SelectBetween_any (D : Option Addr) (c : Nat) (hs : List Hd) (L : List (List Int)) (a b : Int) (s t : ByteArray) (w : World) (ha : RdD w w.heap.size D hs) (hL : cards hs = L) (hl : hs.length + tot hs ≤ 1048576) (hc : hs.length ≤ c) (hq1 : s.size ≤ 1048576) (hq2 : t.size ≤ 1048576) :
    Calls Try.prog 24 #[.slice D hs.length c, .agg #[.int .i64 a, .int .i64 b], .string s, .string t] w fun e w' => ∃ E ce gs, e = .returned (.tuple #[.slice E gs.length ce, .int .i64 (colC [L] true [s, t] a b)]) ∧ cards gs = selRes L a b s t ∧ ObD w' w.heap.size w'.heap.size 62 2 E ce gs ∧ Below w.heap.size w w' := by
  subst hL
  obtain ⟨W, hW⟩ : ∃ W, W = ((((w.alloc (.cells #[.int .i64 a, .int .i64 b] 30)).alloc (.cells #[.string s] 9)).alloc (.cells #[.string t] 9)).alloc (.cells #[.string s, .string t] 9)).alloc (.cells #[.slice D hs.length c] 26) := ⟨_, rfl⟩
  have T0 : Below w.heap.size w W := by rw [hW]; exact ba (ba (ba (ba (ba (b0 w) _) _) _) _) _
  have ra : RdD W W.heap.size D hs := by rw [hW]; exact ((((ha.a1 _).a1 _).a1 _).a1 _).a1 _
  have k1 : W.cell? ⟨w.heap.size, 0, none⟩ = some (.int .i64 a) := by rw [hW]; exact cell_alloc (cell_alloc (cell_alloc (cell_alloc (cell_new rfl rfl) _) _) _) _
  have k2 : W.cell? ⟨w.heap.size, 1, none⟩ = some (.int .i64 b) := by rw [hW]; exact cell_alloc (cell_alloc (cell_alloc (cell_alloc (cell_new rfl rfl) _) _) _) _
  have k3 : W.cell? ⟨w.heap.size + 1, 0, none⟩ = some (.string s) := by rw [hW]; exact cell_alloc (cell_alloc (cell_alloc (cell_new (by simp) rfl) _) _) _
  have k4 : W.cell? ⟨w.heap.size + 1 + 1, 0, none⟩ = some (.string t) := by rw [hW]; exact cell_alloc (cell_alloc (cell_new (by simp) rfl) _) _
  have k5 : W.cell? ⟨w.heap.size + 1 + 1 + 1, 0, none⟩ = some (.string s) := by rw [hW]; exact cell_alloc (cell_new (by simp) rfl) _
  have k6 : W.cell? ⟨w.heap.size + 1 + 1 + 1, 1, none⟩ = some (.string t) := by rw [hW]; exact cell_alloc (cell_new (by simp) rfl) _
  have k7 : W.cell? ⟨w.heap.size + 1 + 1 + 1 + 1, 0, none⟩ = some (.slice D hs.length c) := by rw [hW]; exact cell_new (by simp) rfl
  have rts := rd_str2 k5 k6
  have HW := Lib.hid hW
  have hts : ∀ k (h : k < [s, t].length), [s, t][k].size ≤ 1048576 := by
    intro k h
    match k, h with
    | 0, _ => exact hq1
    | 1, _ => exact hq2
  have HCO := Lib.hid (collateT_any a b (some ⟨w.heap.size + 1 + 1 + 1, 0, none⟩) 2 [s, t] (w.heap.size + 1 + 1 + 1 + 1) D c hs W k7 ra hc hl rts (by simp) hts)
  clear hW k5 k6 k7 rts ha hts
  by_cases hz : colC [cards hs] true [s, t] a b = 0
  · obtain ⟨hk, hlen, hcha⟩ := colC_zero hz
    obtain ⟨h1, h2, h3⟩ := codeK_zero hk
    obtain ⟨i, j, rfl, rfl, hij, hjw⟩ := fieldOk_nat h2
    have HZ := Lib.hid hz
    have H1 := Lib.hid h1
    have H3 := Lib.hid h3
    have HR := Lib.hid (selRes_0 hz)
    simp only [List.all_cons, List.all_nil, Bool.and_true, Bool.and_eq_true] at hlen hcha
    have HLS := Lib.hid (lenB_nat hij hlen.1)
    have HLT := Lib.hid (lenB_nat hij hlen.2)
    have HCS := Lib.hid hcha.1
    have HCT := Lib.hid hcha.2
    clear hz hk h1 h2 h3 hlen hcha
    go_enter Try.func24, Try.ntmps24
    go_wp2_with fail
    rw [← HW.out]
    refine HCO.out.mono ?_; rintro e w1 ⟨rfl, hb1⟩
    have e0 : colC [cards hs] true [s, t] (i : Int) (j : Int) = 0 := HZ.out
    have q1 := cell_later hb1 k1
    have q2 := cell_later hb1 k2
    have q3 := cell_later hb1 k3
    have q4 := cell_later hb1 k4
    have T1 := bs T0 hb1
    have r1 := ra.up hb1
    clear k1 k2 k3 k4 hb1 ra
    go_wp2_with fail
    refine (newDeck_any _ _ hs _ r1 hl).mono ?_; rintro e w2 ⟨E, ce, gs, rfl, hcc, hog, hb2⟩
    clear e0
    have HCC := Lib.hid hcc
    have hgl : gs.length ≤ 1048576 := by have := (cards_same hcc).1; omega
    have hgt : ∀ h ∈ gs, h.xs.length ≤ 1048576 := fun h hh => by have h1 := tot_cards hcc; have h2 := tot_mem hh; omega
    have HCAP := Lib.hid (show ∀ h ∈ gs, h.xs.length ≤ h.c from fun h hh => (hog.rd).cap h hh)
    have HLEG := Lib.hid (show ∀ h ∈ gs, legalL (part h.xs (i : Int) (j : Int)) = true ∧ j ≤ h.xs.length from fun h hh => by
      have hm : h.xs ∈ cards hs := by rw [← hcc]; exact List.mem_map.2 ⟨h, hh, rfl⟩
      obtain ⟨k, hk, e⟩ := List.mem_iff_getElem.1 hm
      rw [← e]
      exact ⟨haveF_at H3.out hk, (part_deck H1.out hij hjw hk).2⟩)
    clear hcc
    go_wp2_with fail
    refine (DeleteFuncCard_any E ce w1.heap.size w2.heap.size gs 77 #[.pointer (some ⟨w.heap.size, 0, none⟩), .pointer (some ⟨w.heap.size + 1, 0, none⟩), .pointer (some ⟨w.heap.size + 1 + 1, 0, none⟩)] (selB s t (i : Int) (j : Int)) _ hog hb2.size hgl Try.call77 (fun h hh w' hbk hrd => SelectBetween1_any _ _ _ h.a h.c h.xs s t i j w' (cell_later (hb2.trans hbk) q1) (cell_later (hb2.trans hbk) q2) (cell_later (hb2.trans hbk) q3) (cell_later (hb2.trans hbk) q4) hrd hij (HLEG.out h hh).2 (HCAP.out h hh) (hgt h hh) (HLEG.out h hh).1 HLS.out HLT.out HCS.out HCT.out)).mono ?_; rintro e w3 ⟨gs3, rfl, hcc3, ho3, hb3⟩
    have HC3 := Lib.hid hcc3
    have hz3 := hb3.size
    clear hcc3
    go_wp2
    go_ret2
    exact ⟨E, ce, gs3, ret_dd HZ.out.symm, by rw [HC3.out, HCC.out, HR.out], ho3.mono T1.size (by first | exact hb3.size | omega), bs T1 (hb2.trans hb3)⟩
  · have HR := Lib.hid (selRes_1 hz)
    have e1 := bne_t hz
    clear hz
    go_enter Try.func24, Try.ntmps24
    go_wp2_with fail
    rw [← HW.out]
    refine HCO.out.mono ?_; rintro e w1 ⟨rfl, hb1⟩
    go_wp2
    go_ret2
    exact ⟨none, 0, [], ret_dd rfl, HR.out.symm, ObD.nil _ _ _ _ _, bs T0 hb1⟩
end Go.Proofs.Ytabdlbaonjhnnaa
