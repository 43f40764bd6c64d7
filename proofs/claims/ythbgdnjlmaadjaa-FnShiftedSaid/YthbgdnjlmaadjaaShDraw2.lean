/- The draws of the law on shifted cards: laced columns, fields. -/
import Derived.Test.YthbgdnjlmaadjaaShDraw
namespace Go.Proofs.Ythbgdnjlmaadjaa
open Go.RowKit

/-- Behind some laced columns. -/
def LcR (p K n b5 lo hi : Nat) (v w0 wr : World) (B : Option Addr) (d : Nat) (q : Value) : Prop := ∃ (k : Nat) (ys : List Int), k ≤ 2 ∧ q = .int .i64 k ∧ ys.length = n ∧ Ob wr lo hi 2 1 (.slice B n d) n (ints ys) ∧ wr.cell? ⟨b5, 0, none⟩ = some (.slice B n d) ∧
  wr.cell? ⟨w0.heap.size, 0, none⟩ = some (.slice none 0 0) ∧ wr.frozen? ⟨w0.heap.size, 0, none⟩ = false ∧ Below w0.heap.size w0 wr ∧ SrcK wr p (K + 8 * (2 - k)) ∧ v.heap.size ≤ wr.heap.size

set_option maxRecDepth 20000 in
set_option maxHeartbeats 8000000 in
theorem DrawLacedColumns_any (A : Option Addr) (n c : Nat) (bs0 : List UInt8) (w : World) (ha : Rd w w.heap.size 1 A n (byts bs0)) (hn : n ≤ 1048576) :
    Calls Try.prog 33 #[.slice A n c] w (CardP w) := by
  obtain ⟨W, hW⟩ : ∃ W, W = w.alloc (.cells #[.slice none 0 0] 26) := ⟨_, rfl⟩
  have T0 : Below w.heap.size w W := by rw [hW]; exact ba (b0 w) _
  have c0 : W.cell? ⟨w.heap.size, 0, none⟩ = some (.slice none 0 0) := by rw [hW]; exact cell_new rfl rfl
  have f0 : W.frozen? ⟨w.heap.size, 0, none⟩ = false := by rw [hW]; exact froz_new rfl
  have z0 : W.heap.size = w.heap.size + 1 := by rw [hW]; simp
  have haW := ha.up T0
  have HW := Lib.hid hW
  clear hW ha
  go_enter Try.func33, Try.ntmps33
  go_wp2_with fail
  rw [← HW.out]
  refine (l00From_any A n c bs0 _ haW hn).mono ?_
  rintro e w1 ⟨p, hp, rfl, hs1, hb1⟩
  replace c0 := cell_later hb1 c0
  replace f0 := froz_later hb1 f0 (by omega)
  have T1 := bs T0 hb1
  have z1 := hb1.size
  have hlt := hs1.lt
  clear hb1 haW
  go_wp2_with fail
  refine (l03Bent_any p 0 _ hs1 (by omega)).mono ?_
  rintro e w2 ⟨B, n, d, xs, rfl, hxl, hn40, hob, hs2, hc2⟩
  subst hxl
  replace c0 := hc2.cell c0 (.inl (by omega))
  replace f0 := hc2.froz f0 (by omega) (.inl (by omega))
  have z2 := hc2.size
  have TB := ba (b0 w2) (.cells #[.slice B xs.length d] 26)
  have HT3 := Lib.hid (bs (hc2.below T1 (by omega) (by omega)) TB)
  have b3 : (w2.alloc (.cells #[.slice B xs.length d] 26)).cell? ⟨w2.heap.size, 0, none⟩ = some (.slice B xs.length d) := cell_new rfl rfl
  replace c0 := cell_later TB c0
  replace f0 := froz_later TB f0 (by omega)
  have hs3 := hs2.later TB
  have HO3 := Lib.hid (hob.bs TB)
  have z3 : (w2.alloc (.cells #[.slice B xs.length d] 26)).heap.size = w2.heap.size + 1 := by simp
  clear hob hc2 hs1 hs2 TB T1
  obtain ⟨v3, hv3⟩ : ∃ v3, v3 = w2.alloc (.cells #[.slice B xs.length d] 26) := ⟨_, rfl⟩
  rw [← hv3] at c0 f0 b3 hs3 HO3 HT3 z3
  have HV := Lib.hid hv3
  clear hv3
  go_wp2_with fail
  rw [← HV.out]
  have B3 := Lib.hid b3
  have C0 := Lib.hid c0
  have F0 := Lib.hid f0
  refine (pick_any p _ 3 _ hs3 (by omega) (by omega)).mono ?_
  rintro e w4 ⟨x, hx, rfl, hs4, hc4⟩
  have hx2 : x ≤ 2 := by omega
  replace b3 := hc4.cell B3.out (.inr (by omega))
  replace c0 := hc4.cell C0.out (.inl (by omega))
  replace f0 := hc4.froz F0.out (by omega) (.inl (by omega))
  have z4 := hc4.size
  have HO4 := Lib.hid (HO3.out.chg hc4 (.inr (by omega)))
  have HT4 := Lib.hid (hc4.below HT3.out (by omega) (by omega))
  have HN := Lib.hid (show ∃ n, n = xs.length from ⟨_, rfl⟩)
  obtain ⟨m, hm⟩ := HN.out
  rw [← hm] at b3 hn40 HO4
  have HM := Lib.hid hm
  have HS4 := Lib.hid (hs4.more (show _ ≤ 0 + 100 + 2 + 8 * (2 - x) by omega))
  clear HN hm hx hc4 hs4 hs3
  go_wp2
  go_loopw [5] (fun q wr => LcR p (0 + 100 + 2) m w2.heap.size w1.heap.size w2.heap.size w2 w wr B d q) (fun q _ => (intOf q).toNat)
  case atStart => exact ⟨x, xs, hx2, rfl, HM.out.symm, HO4.out, b3, c0, f0, HT4.out, HS4.out, by omega⟩
  case round =>
    obtain ⟨wo, rfl⟩ : ∃ wo : World, wo = wr := ⟨_, rfl⟩
    obtain ⟨k, ys, hk, rfl, hyl, hob, b4, c4, f4, hT, hs, hz⟩ := hrel
    have HYL := Lib.hid hyl
    clear hyl b3 c0 f0
    by_cases hk0 : 0 < k
    · have i1 : (0 : Int) < (k : Int) := by omega
      by_cases hm0 : 0 < m
      · have i2 : (0 : Int) < (m : Int) := by omega
        obtain ⟨g, hB, hg1, hg2⟩ := own_at hob.1 (k := 0) hm0
        subst hB
        have hg3 : g < w2.heap.size := hob.2 g rfl
        have B4 := Lib.hid b4
        have OB := Lib.hid hob
        clear hob
        go_wp2_with fail
        go_region_held3 (fun w' => w'.cell? ⟨w2.heap.size, 0, none⟩ = some (.slice (some ⟨g, 0, none⟩) m d)) (first | exact b4 | exact set_far b4 (by omega) | go_keep)
          ((go_at_call 97; refine (pick_any p (0 + 100 + 2 + 8 * (2 - k)) (m : Int) _ ?_ (by omega) (by omega)).mono ?_; (first | exact hs | exact hs.drew); rintro e w4 ⟨u, hu, rfl, hs4, hc4⟩; have hum : u < m := (by omega); have cx : Chg p (p + 1) wo w4 := ⟨hc4.os, hc4.tape, hc4.output, hc4.size, hc4.block⟩; replace b4 := cx.cell B4.out (.inr (by omega)); have ob4 := OB.out.chg cx (.inr (by omega)); have d1 := own_cell ob4.1 u (by rw [ints_length, HYL.out]; exact hum); have e1 := ob4.1.frozenAt u))
        have hpg : p < g := by omega
        have c5 := cx.cell c4 (.inl (by omega))
        have f5 := cx.froz f4 (by omega) (.inl (by omega))
        have z5 := cx.size
        have hgz := ob4.1.lt g rfl
        have HO := Lib.hid (ownsRow_set ob4.1 u)
        have HT5 := Lib.hid (cx.below hT (by omega) (by omega))
        have HS5 := Lib.hid hs4
        have HG := Lib.hid ob4.2
        have C5 := Lib.hid c5
        have F5 := Lib.hid f5
        have B5 := Lib.hid b4
        clear hu hc4 hs4 hs cx ob4 d1 e1 c4 f4 b4 c5 f5 hT
        go_wp2
        go_roundw
        case rel =>
          have Q : LcR p (0 + 100 + 2) m w2.heap.size w1.heap.size w2.heap.size w2 w (w4.setCell ⟨g, u, none⟩ (.int .i64 4095)) (some ⟨g, 0, none⟩) d (.int .i64 ((k : Int) - 1)) := ⟨k - 1, ys.set u 4095, by omega, by rw [show (k : Int) - 1 = ((k - 1 : Nat) : Int) by omega], by rw [List.length_set, HYL.out], ⟨by rw [← ints_set']; exact HO.out _, HG.out⟩, set_far B5.out (by omega), set_far C5.out (by omega), set_far_f F5.out (by omega), bset HT5.out _ _ _ (by omega), (HS5.out.set _ _ hpg).more (by omega), by rw [World.size_setCell]; omega⟩
          first | exact Q | exact ⟨_, Q, rfl⟩ | exact ⟨_, _, Q, rfl, rfl⟩ | exact ⟨_, _, _, Q, rfl, rfl, rfl⟩ | exact ⟨_, _, _, _, Q, rfl, rfl, rfl, rfl⟩
        case measure => (simp [intOf]; try omega)
      · have i2 : ¬ (0 : Int) < (m : Int) := by omega
        obtain rfl : m = 0 := by omega
        go_wp2
        refine bodyPost_ret (v := .agg #[.slice B 0 d]) (by simp [results, Try.results33, go_sem, *]) rfl ⟨B, 0, d, ys, rfl, HYL.out, by omega, ?_, ?_⟩
        · exact (hob.below _ _ _ (by omega)).mono (by omega) (by simp <;> omega)
        · exact bset hT _ _ _ (Nat.le_refl _)
    · have i1 : ¬ (0 : Int) < (k : Int) := by omega
      go_wp2
      refine bodyPost_ret (v := .agg #[.slice B m d]) (by simp [results, Try.results33, go_sem, *]) rfl ⟨B, m, d, ys, rfl, HYL.out, hn40, ?_, ?_⟩
      · exact (hob.below _ _ _ (by omega)).mono (by omega) (by simp <;> omega)
      · exact bset hT _ _ _ (Nat.le_refl _)

theorem l00Max_any (a b : Int) (w : World) : Calls Try.prog 157 #[.int .i64 a, .int .i64 b] w fun e w' => e = .returned (.int .i64 (max a b)) ∧ w = w' := by
  go_enter Try.func157, Try.ntmps157
  by_cases h : b < a
  · go_wp2
    go_ret
    exact ⟨ret_int (by omega), rfl⟩
  · go_wp2
    go_ret
    exact ⟨ret_int (by omega), rfl⟩
/-- What a draw of a field hands back. -/
def FldP (p K : Nat) (w : World) (e : Ending) (w' : World) : Prop := ∃ a b : Int, e = .returned (.agg #[.int .i64 a, .int .i64 b]) ∧ SrcK w' p (K + 6) ∧ Chg p (p + 1) w w'
set_option maxRecDepth 20000 in
set_option maxHeartbeats 8000000 in
theorem l02DrawField_any (p K wd : Nat) (w : World) (h : SrcK w p K) (hK : K + 100 < 800000) (hwd : wd ≤ 40) :
    Calls Try.prog 114 #[.pointer (some ⟨p, 0, none⟩), .int .i64 (wd : Int)] w (FldP p K w) := by
  have hlt := h.lt
  obtain ⟨W, hW⟩ : ∃ W, W = w.alloc (.cells #[.int .i64 0, .int .i64 0] 51) := ⟨_, rfl⟩
  have T0 : Below w.heap.size w W := by rw [hW]; exact ba (b0 w) _
  have c0 : W.cell? ⟨w.heap.size, 0, none⟩ = some (.int .i64 0) := by rw [hW]; exact cell_new rfl rfl
  have f0 : W.frozen? ⟨w.heap.size, 0, none⟩ = false := by rw [hW]; exact froz_new rfl
  have c1 : W.cell? ⟨w.heap.size, 1, none⟩ = some (.int .i64 0) := by rw [hW]; exact cell_new rfl rfl
  have f1 : W.frozen? ⟨w.heap.size, 1, none⟩ = false := by rw [hW]; exact froz_new rfl
  have z0 : W.heap.size = w.heap.size + 1 := by rw [hW]; simp
  have hs := h.later T0
  have HCH := Lib.hid ((Chg.refl p (p + 1) w).then T0 (Nat.le_refl _))
  have HW := Lib.hid hW
  clear hW h
  go_enter Try.func114, Try.ntmps114
  go_wp2_with fail
  rw [← HW.out]
  refine (one_any p K 12 _ hs (by omega) (by omega)).mono ?_
  rintro e w1 (⟨rfl, hs1, hc1⟩ | ⟨rfl, hs1, hc1⟩)
  all_goals
    replace c0 := hc1.cell c0 (.inr (by omega))
    replace f0 := hc1.froz f0 (by omega) (.inr (by omega))
    replace c1 := hc1.cell c1 (.inr (by omega))
    replace f1 := hc1.froz f1 (by omega) (.inr (by omega))
    have z1 := hc1.size
    have HC1 := Lib.hid (HCH.out.trans hc1)
    clear hc1
  · have TB := ba (b0 w1) (.cells #[.int .i64 (-1), .int .i64 0, .int .i64 1, .int .i64 (wd : Int), .int .i64 9223372036854775807, .int .i64 (-9223372036854775808)] 2)
    go_wp2_with fail
    refine (among_any p (K + 2) _ 6 6 [-1, 0, 1, (wd : Int), 9223372036854775807, -9223372036854775808] _ (hs1.later TB) (by omega) rfl (by omega) (by omega) (Rd.own (own_lit w1 #[.int .i64 (-1), .int .i64 0, .int .i64 1, .int .i64 (wd : Int), .int .i64 9223372036854775807, .int .i64 (-9223372036854775808)] 6 rfl (Nat.le_refl _) (by omega) rfl)) (by intro gg oo hgg; injection hgg with hgg; injection hgg with hgg; omega)).mono ?_
    rintro e w2 ⟨za, _, rfl, hs2, hc2⟩
    replace c0 := hc2.cell (cell_later TB c0) (.inr (by omega))
    replace f0 := hc2.froz (froz_later TB f0 (by omega)) (by simp <;> omega) (.inr (by omega))
    replace c1 := hc2.cell (cell_later TB c1) (.inr (by omega))
    replace f1 := hc2.froz (froz_later TB f1 (by omega)) (by simp <;> omega) (.inr (by omega))
    have z2 := Nat.le_trans TB.size hc2.size
    have HC2 := Lib.hid ((HC1.out.then TB (by omega)).trans hc2)
    have HS2 := Lib.hid hs2
    clear hc2 TB hs1 hs2
    have TB := ba (b0 w2) (.cells #[.int .i64 0, .int .i64 1, .int .i64 (wd : Int), .int .i64 ((wd : Int) + 1), .int .i64 9223372036854775807] 2)
    go_wp2_with fail
    refine (among_any p (K + 2 + 2) _ 5 5 [0, 1, (wd : Int), (wd : Int) + 1, 9223372036854775807] _ (HS2.out.later TB) (by omega) rfl (by omega) (by omega) (Rd.own (own_lit w2 #[.int .i64 0, .int .i64 1, .int .i64 (wd : Int), .int .i64 ((wd : Int) + 1), .int .i64 9223372036854775807] 5 rfl (Nat.le_refl _) (by omega) rfl)) (by intro gg oo hgg; injection hgg with hgg; injection hgg with hgg; omega)).mono ?_
    rintro e w3 ⟨zb, _, rfl, hs3, hc3⟩
    replace c0 := hc3.cell (cell_later TB c0) (.inr (by omega))
    replace f0 := hc3.froz (froz_later TB f0 (by omega)) (by simp <;> omega) (.inr (by omega))
    replace c1 := hc3.cell (cell_later TB c1) (.inr (by omega))
    replace f1 := hc3.froz (froz_later TB f1 (by omega)) (by simp <;> omega) (.inr (by omega))
    have HC3 := Lib.hid ((HC2.out.then TB (by omega)).trans hc3)
    have HS3 := Lib.hid hs3
    clear hc3 TB hs3
    go_wp2
    refine bodyPost_ret (v := .agg #[.int .i64 za, .int .i64 zb]) (by simp [results, Try.results114, go_sem, *]) rfl ⟨za, zb, rfl, ?_, ?_⟩
    · exact ((HS3.out.set _ _ hlt).set _ _ hlt).more (by omega)
    · exact HC3.out.then (bset (bset (Below.refl w.heap.size _) _ _ _ (Nat.le_refl _)) _ _ _ (Nat.le_refl _)) (Nat.le_refl _)
  · go_wp2_with fail
    refine (l00Max_any 1 (wd : Int) _).mono ?_
    rintro e w2 ⟨rfl, rfl⟩
    go_wp2_with fail
    refine (pick_any p _ _ _ hs1 (by omega) (by omega)).mono ?_
    rintro e w2 ⟨x, hx, rfl, hs2, hc2⟩
    have hx2 : x ≤ 40 := by omega
    replace c0 := hc2.cell c0 (.inr (by omega))
    replace f0 := hc2.froz f0 (by omega) (.inr (by omega))
    replace c1 := hc2.cell c1 (.inr (by omega))
    replace f1 := hc2.froz f1 (by omega) (.inr (by omega))
    have z2 := hc2.size
    have HC2 := Lib.hid (HC1.out.trans hc2)
    clear hc2 hs1 hx
    go_wp2_with fail
    refine (l00Max_any 1 _ _).mono ?_
    rintro e w3 ⟨rfl, rfl⟩
    go_wp2_with fail
    refine (pick_any p _ _ _ hs2 (by omega) (by omega)).mono ?_
    rintro e w3 ⟨y, hy, rfl, hs3, hc3⟩
    have hy2 : y ≤ 80 := by omega
    replace c0 := hc3.cell c0 (.inr (by omega))
    replace f0 := hc3.froz f0 (by omega) (.inr (by omega))
    replace c1 := hc3.cell c1 (.inr (by omega))
    replace f1 := hc3.froz f1 (by omega) (.inr (by omega))
    have HC3 := Lib.hid (HC2.out.trans hc3)
    have HS3 := Lib.hid hs3
    clear hc3 hs2 hs3 hy
    go_wp2
    refine bodyPost_ret (v := .agg #[.int .i64 x, .int .i64 ((x : Int) + 1 + y)]) (by simp [results, Try.results114, go_sem, *]) rfl ⟨_, _, rfl, ?_, ?_⟩
    · exact ((HS3.out.set _ _ hlt).set _ _ hlt).more (by omega)
    · exact HC3.out.then (bset (bset (Below.refl w.heap.size _) _ _ _ (Nat.le_refl _)) _ _ _ (Nat.le_refl _)) (Nat.le_refl _)

/-- What a draw of a card and a field hands back. -/
def CardFP (w : World) (e : Ending) (w' : World) : Prop := ∃ B n d xs a b, e = .returned (.tuple #[.agg #[.slice B n d], .agg #[.int .i64 a, .int .i64 b]]) ∧ List.length xs = n ∧ n ≤ 40 ∧ Ob w' w.heap.size w'.heap.size 2 1 (.slice B n d) n (ints xs) ∧ Below w.heap.size w w'
set_option maxRecDepth 20000 in
set_option maxHeartbeats 8000000 in
theorem DrawTornColumns_any (A : Option Addr) (n c : Nat) (bs0 : List UInt8) (w : World) (ha : Rd w w.heap.size 1 A n (byts bs0)) (hn : n ≤ 1048576) :
    Calls Try.prog 39 #[.slice A n c] w (CardFP w) := by
  obtain ⟨W, hW⟩ : ∃ W, W = (w.alloc (.cells #[.slice none 0 0] 26)).alloc (.cells #[.int .i64 0, .int .i64 0] 51) := ⟨_, rfl⟩
  have T0 : Below w.heap.size w W := by rw [hW]; exact ba (ba (b0 w) _) _
  have c0 : W.cell? ⟨w.heap.size, 0, none⟩ = some (.slice none 0 0) := by rw [hW]; exact cell_alloc (cell_new rfl rfl) _
  have f0 : W.frozen? ⟨w.heap.size, 0, none⟩ = false := by rw [hW]; exact froz_alloc (froz_new rfl) (by simp) _
  have c1 : W.cell? ⟨w.heap.size + 1, 0, none⟩ = some (.int .i64 0) := by rw [hW]; exact cell_new (by simp) rfl
  have f1 : W.frozen? ⟨w.heap.size + 1, 0, none⟩ = false := by rw [hW]; exact froz_new (by simp)
  have c1x : W.cell? ⟨w.heap.size + 1, 1, none⟩ = some (.int .i64 0) := by rw [hW]; exact cell_new (by simp) rfl
  have f1x : W.frozen? ⟨w.heap.size + 1, 1, none⟩ = false := by rw [hW]; exact froz_new (by simp)
  have z0 : W.heap.size = w.heap.size + 2 := by rw [hW]; simp
  have haW := ha.up T0
  have HW := Lib.hid hW
  clear hW ha
  go_enter Try.func39, Try.ntmps39
  go_wp2_with fail
  rw [← HW.out]
  refine (l00From_any A n c bs0 _ haW hn).mono ?_
  rintro e w1 ⟨p, hp, rfl, hs1, hb1⟩
  replace c0 := cell_later hb1 c0
  replace f0 := froz_later hb1 f0 (by omega)
  replace c1 := cell_later hb1 c1
  replace f1 := froz_later hb1 f1 (by omega)
  replace c1x := cell_later hb1 c1x
  replace f1x := froz_later hb1 f1x (by omega)
  have T1 := bs T0 hb1
  have z1 := hb1.size
  have hlt := hs1.lt
  clear hb1 haW
  go_wp2_with fail
  refine (l03Bent_any p 0 _ hs1 (by omega)).mono ?_
  rintro e w2 ⟨B, n, d, xs, rfl, hxl, hn40, hob, hs2, hc2⟩
  subst hxl
  replace c0 := hc2.cell c0 (.inl (by omega))
  replace f0 := hc2.froz f0 (by omega) (.inl (by omega))
  replace c1 := hc2.cell c1 (.inl (by omega))
  replace f1 := hc2.froz f1 (by omega) (.inl (by omega))
  replace c1x := hc2.cell c1x (.inl (by omega))
  replace f1x := hc2.froz f1x (by omega) (.inl (by omega))
  have z2 := hc2.size
  have TB := ba (b0 w2) (.cells #[.slice B xs.length d] 26)
  have HT3 := Lib.hid (bs (hc2.below T1 (by omega) (by omega)) TB)
  have b3 : (w2.alloc (.cells #[.slice B xs.length d] 26)).cell? ⟨w2.heap.size, 0, none⟩ = some (.slice B xs.length d) := cell_new rfl rfl
  replace c0 := cell_later TB c0
  replace f0 := froz_later TB f0 (by omega)
  replace c1 := cell_later TB c1
  replace f1 := froz_later TB f1 (by omega)
  replace c1x := cell_later TB c1x
  replace f1x := froz_later TB f1x (by omega)
  have hs3 := hs2.later TB
  have HO3 := Lib.hid (hob.bs TB)
  have z3 : (w2.alloc (.cells #[.slice B xs.length d] 26)).heap.size = w2.heap.size + 1 := by simp
  clear hob hc2 hs1 hs2 TB T1
  obtain ⟨v3, hv3⟩ : ∃ v3, v3 = w2.alloc (.cells #[.slice B xs.length d] 26) := ⟨_, rfl⟩
  rw [← hv3] at c0 f0 c1 f1 c1x f1x b3 hs3 HO3 HT3 z3
  have HV := Lib.hid hv3
  clear hv3
  go_wp2_with fail
  rw [← HV.out]
  have B3 := Lib.hid b3
  have C0 := Lib.hid c0
  have F0 := Lib.hid f0
  have C1 := Lib.hid c1
  have F1 := Lib.hid f1
  have C1x := Lib.hid c1x
  have F1x := Lib.hid f1x
  go_region_held3 (fun w' => w'.cell? ⟨w2.heap.size, 0, none⟩ = some (.slice B xs.length d)) (first | exact b3 | exact set_far b3 (by omega) | exact set_far (set_far b3 (by omega)) (by omega) | exact set_far (set_far (set_far b3 (by omega)) (by omega)) (by omega) | go_keep)
    ((go_at_call 114; refine (l02DrawField_any p (0 + 100) xs.length _ ?_ (by omega) hn40).mono ?_; (first | exact hs3 | exact hs3.drew); rintro e w5 ⟨fa, fb, rfl, hs5, hc5⟩; have cy : Chg p (p + 1) v3 w5 := ⟨hc5.os, hc5.tape, hc5.output, hc5.size, hc5.block⟩; replace b3 := cy.cell B3.out (.inr (by omega)); replace c0 := cy.cell C0.out (.inl (by omega)); replace f0 := cy.froz F0.out (by omega) (.inl (by omega)); replace c1 := cy.cell C1.out (.inl (by omega)); replace f1 := cy.froz F1.out (by omega) (.inl (by omega)); replace c1x := cy.cell C1x.out (.inl (by omega)); replace f1x := cy.froz F1x.out (by omega) (.inl (by omega))))
  all_goals
    have HT5 := Lib.hid (cy.below HT3.out (by omega) (by omega))
    have HO5 := Lib.hid (HO3.out.chg cy (.inr (by omega)))
    have z5 := cy.size
    go_wp2
    refine bodyPost_ret (v := .tuple #[.agg #[.slice B xs.length d], .agg #[.int .i64 fa, .int .i64 fb]]) (by simp [results, Try.results39, go_sem, *]) rfl ⟨B, _, d, xs, fa, fb, rfl, rfl, hn40, ?_, ?_⟩
    · exact (((HO5.out.below _ _ _ (by omega)).below _ _ _ (by omega)).below _ _ _ (by omega)).mono (by omega) (by simp <;> omega)
    · exact bset (bset (bset HT5.out _ _ _ (Nat.le_refl _)) _ _ _ (by omega)) _ _ _ (by omega)
end Go.Proofs.Ythbgdnjlmaadjaa
