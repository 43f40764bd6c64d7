/- The draws of the law on shifted cards. -/
import Derived.Test.YthbgdnjlmaadjaaDmDraw
import Derived.Test.YthbgdnjlmaadjaaShift
import Derived.Test.YthbgdnjlmaadjaaCardFns
import Derived.IntWalk
namespace Go.Proofs.Ythbgdnjlmaadjaa
open Go.RowKit

/-- What a draw of a card and a number hands back. -/
def CardIP (w : World) (e : Ending) (w' : World) : Prop := ∃ B n d xs z, e = .returned (.tuple #[.agg #[.slice B n d], .int .i64 z]) ∧ List.length xs = n ∧ n ≤ 40 ∧ Ob w' w.heap.size w'.heap.size 2 1 (.slice B n d) n (ints xs) ∧ Below w.heap.size w w'
set_option maxRecDepth 20000 in
set_option maxHeartbeats 8000000 in
theorem l06At_any (A : Option Addr) (n c : Nat) (bs0 : List UInt8) (w : World) (ha : Rd w w.heap.size 1 A n (byts bs0)) (hn : n ≤ 1048576) :
    Calls Try.prog 105 #[.slice A n c] w (CardIP w) := by
  obtain ⟨W, hW⟩ : ∃ W, W = w.alloc (.cells #[.slice none 0 0] 26) := ⟨_, rfl⟩
  have T0 : Below w.heap.size w W := by rw [hW]; exact ba (b0 w) _
  have c0 : W.cell? ⟨w.heap.size, 0, none⟩ = some (.slice none 0 0) := by rw [hW]; exact cell_new rfl rfl
  have f0 : W.frozen? ⟨w.heap.size, 0, none⟩ = false := by rw [hW]; exact froz_new rfl
  have z0 : W.heap.size = w.heap.size + 1 := by rw [hW]; simp
  have haW := ha.up T0
  have HW := Lib.hid hW
  clear hW ha
  go_enter Try.func105, Try.ntmps105
  go_wp2_with fail
  rw [← HW.out]
  refine (l00From_any A n c bs0 _ haW hn).mono ?_
  rintro e w1 ⟨p, hp, rfl, hs1, hb1⟩
  replace c0 := cell_later hb1 c0
  replace f0 := froz_later hb1 f0 (by omega)
  have T1 := bs T0 hb1
  have z1 := hb1.size
  have hlt := hs1.lt
  clear hb1 haW
  go_wp2_with fail
  refine (l03Bent_any p 0 _ hs1 (by omega)).mono ?_
  rintro e w2 ⟨B, n, d, xs, rfl, hxl, hn40, hob, hs2, hc2⟩
  subst hxl
  replace c0 := hc2.cell c0 (.inl (by omega))
  replace f0 := hc2.froz f0 (by omega) (.inl (by omega))
  have z2 := hc2.size
  have TB := ba (b0 w2) (.cells #[.slice B xs.length d] 26)
  have HT3 := Lib.hid (bs (hc2.below T1 (by omega) (by omega)) TB)
  have b3 : (w2.alloc (.cells #[.slice B xs.length d] 26)).cell? ⟨w2.heap.size, 0, none⟩ = some (.slice B xs.length d) := cell_new rfl rfl
  replace c0 := cell_later TB c0
  replace f0 := froz_later TB f0 (by omega)
  have hs3 := hs2.later TB
  have HO3 := Lib.hid (hob.bs TB)
  have z3 : (w2.alloc (.cells #[.slice B xs.length d] 26)).heap.size = w2.heap.size + 1 := by simp
  clear hob hc2 hs1 hs2 TB T1
  obtain ⟨v3, hv3⟩ : ∃ v3, v3 = w2.alloc (.cells #[.slice B xs.length d] 26) := ⟨_, rfl⟩
  rw [← hv3] at c0 f0 b3 hs3 HO3 HT3 z3
  have HV := Lib.hid hv3
  clear hv3
  go_wp2_with fail
  rw [← HV.out]
  have B3 := Lib.hid b3
  have C0 := Lib.hid c0
  have F0 := Lib.hid f0
  go_region_held3 (fun w' => w'.cell? ⟨w2.heap.size, 0, none⟩ = some (.slice B xs.length d)) (first | exact b3 | exact set_far b3 (by omega) | go_keep)
    (first
      | (go_at_call 97; refine (pick_any p (0 + 100) _ _ ?_ (by omega) (by omega)).mono ?_; (first | exact hs3 | exact hs3.drew); rintro e w4 ⟨x, hx, rfl, hs4, hc4⟩; have hx2 : x ≤ 11 := (by omega); have cx : Chg p (p + 1) v3 w4 := ⟨hc4.os, hc4.tape, hc4.output, hc4.size, hc4.block⟩; replace b3 := cx.cell B3.out (.inr (by omega)); replace c0 := cx.cell C0.out (.inl (by omega)); replace f0 := cx.froz F0.out (by omega) (.inl (by omega)))
      | (go_at_call 97; refine (pick_any p (0 + 100 + 2) _ _ ?_ (by omega) (by omega)).mono ?_; (first | exact hs4 | exact hs4.drew); rintro e w5 ⟨y, hy, rfl, hs5, hc5⟩; have hy2 : y ≤ 11 := (by omega); have cy : Chg p (p + 1) v3 w5 := cx.trans ⟨hc5.os, hc5.tape, hc5.output, hc5.size, hc5.block⟩; replace b3 := cy.cell B3.out (.inr (by omega)); replace c0 := cy.cell C0.out (.inl (by omega)); replace f0 := cy.froz F0.out (by omega) (.inl (by omega))))
  all_goals
    have HT5 := Lib.hid (cy.below HT3.out (by omega) (by omega))
    have HO5 := Lib.hid (HO3.out.chg cy (.inr (by omega)))
    have z5 := cy.size
    go_wp2
    refine bodyPost_ret (v := .tuple #[.agg #[.slice B xs.length d], .int .i64 _]) (by simp [results, Try.results105, go_sem, *]; rfl) rfl ⟨B, _, d, xs, _, rfl, rfl, hn40, ?_, ?_⟩
    · exact (HO5.out.below _ _ _ (by omega)).mono (by omega) (by simp <;> omega)
    · exact bset HT5.out _ _ _ (Nat.le_refl _)

set_option maxHeartbeats 2000000 in
theorem DrawLaceColumn_any (A : Option Addr) (n c : Nat) (bs0 : List UInt8) (w : World) (ha : Rd w w.heap.size 1 A n (byts bs0)) (hn : n ≤ 1048576) :
    Calls Try.prog 30 #[.slice A n c] w (CardIP w) := by
  obtain ⟨W, hW⟩ : ∃ W, W = w.alloc (.cells #[.slice none 0 0] 26) := ⟨_, rfl⟩
  have T0 : Below w.heap.size w W := by rw [hW]; exact ba (b0 w) _
  have c0 : W.cell? ⟨w.heap.size, 0, none⟩ = some (.slice none 0 0) := by rw [hW]; exact cell_new rfl rfl
  have f0 : W.frozen? ⟨w.heap.size, 0, none⟩ = false := by rw [hW]; exact froz_new rfl
  have z0 : W.heap.size = w.heap.size + 1 := by rw [hW]; simp
  have haW := ha.up T0
  have HW := Lib.hid hW
  clear hW ha
  go_enter Try.func30, Try.ntmps30
  go_wp2_with fail
  rw [← HW.out]
  refine (l06At_any A n c bs0 _ haW hn).mono ?_
  rintro e w1 ⟨B, n, d, xs, z, rfl, hxl, hn40, ho1, hb1⟩
  have c1 := cell_later hb1 c0
  have f1 := froz_later hb1 f0 (by omega)
  have HX := Lib.hid hxl
  clear hxl c0 f0 haW
  go_wp2
  refine bodyPost_ret (v := .tuple #[.agg #[.slice B n d], .int .i64 z]) (by simp [results, Try.results30, go_sem, *]) rfl ⟨B, n, d, xs, z, rfl, HX.out, hn40, ?_, ?_⟩
  · exact (ho1.below _ _ _ (by omega)).mono (by omega) (by simp <;> omega)
  · exact bset (bs T0 hb1) _ _ _ (Nat.le_refl _)

set_option maxRecDepth 20000 in
set_option maxHeartbeats 8000000 in
theorem DrawShiftCard_any (A : Option Addr) (n c : Nat) (bs0 : List UInt8) (w : World) (ha : Rd w w.heap.size 1 A n (byts bs0)) (hn : n ≤ 1048576) :
    Calls Try.prog 27 #[.slice A n c] w (CardIP w) := by
  obtain ⟨W, hW⟩ : ∃ W, W = w.alloc (.cells #[.slice none 0 0] 26) := ⟨_, rfl⟩
  have T0 : Below w.heap.size w W := by rw [hW]; exact ba (b0 w) _
  have c0 : W.cell? ⟨w.heap.size, 0, none⟩ = some (.slice none 0 0) := by rw [hW]; exact cell_new rfl rfl
  have f0 : W.frozen? ⟨w.heap.size, 0, none⟩ = false := by rw [hW]; exact froz_new rfl
  have z0 : W.heap.size = w.heap.size + 1 := by rw [hW]; simp
  have haW := ha.up T0
  have HW := Lib.hid hW
  clear hW ha
  go_enter Try.func27, Try.ntmps27
  go_wp2_with fail
  rw [← HW.out]
  refine (l00From_any A n c bs0 _ haW hn).mono ?_
  rintro e w1 ⟨p, hp, rfl, hs1, hb1⟩
  replace c0 := cell_later hb1 c0
  replace f0 := froz_later hb1 f0 (by omega)
  have T1 := bs T0 hb1
  have z1 := hb1.size
  have hlt := hs1.lt
  clear hb1 haW
  go_wp2_with fail
  refine (l03Bent_any p 0 _ hs1 (by omega)).mono ?_
  rintro e w2 ⟨B, n, d, xs, rfl, hxl, hn40, hob, hs2, hc2⟩
  subst hxl
  replace c0 := hc2.cell c0 (.inl (by omega))
  replace f0 := hc2.froz f0 (by omega) (.inl (by omega))
  have z2 := hc2.size
  have TB := ba (b0 w2) (.cells #[.slice B xs.length d] 26)
  have HT3 := Lib.hid (bs (hc2.below T1 (by omega) (by omega)) TB)
  have b3 : (w2.alloc (.cells #[.slice B xs.length d] 26)).cell? ⟨w2.heap.size, 0, none⟩ = some (.slice B xs.length d) := cell_new rfl rfl
  replace c0 := cell_later TB c0
  replace f0 := froz_later TB f0 (by omega)
  have hs3 := hs2.later TB
  have HO3 := Lib.hid (hob.bs TB)
  have z3 : (w2.alloc (.cells #[.slice B xs.length d] 26)).heap.size = w2.heap.size + 1 := by simp
  clear hob hc2 hs1 hs2 TB T1
  obtain ⟨v3, hv3⟩ : ∃ v3, v3 = w2.alloc (.cells #[.slice B xs.length d] 26) := ⟨_, rfl⟩
  rw [← hv3] at c0 f0 b3 hs3 HO3 HT3 z3
  have HV := Lib.hid hv3
  clear hv3
  go_wp2_with fail
  rw [← HV.out]
  have B3 := Lib.hid b3
  have C0 := Lib.hid c0
  have F0 := Lib.hid f0
  refine (one_any p _ 10 _ hs3 (by omega) (by omega)).mono ?_
  rintro e v4 (⟨rfl, hs4, hc4⟩ | ⟨rfl, hs4, hc4⟩)
  all_goals
    replace b3 := hc4.cell B3.out (.inr (by omega))
    replace c0 := hc4.cell C0.out (.inl (by omega))
    replace f0 := hc4.froz F0.out (by omega) (.inl (by omega))
    have z4 := hc4.size
  · go_wp2_with fail
    go_region_held3 (fun w' => w'.cell? ⟨w2.heap.size, 0, none⟩ = some (.slice B xs.length d)) (first | exact b3 | exact set_far b3 (by omega) | exact set_far (set_far b3 (by omega)) (by omega) | exact cell_alloc b3 _ | go_keep)
      ((go_at_call 96; refine (among_any p (0 + 100 + 2) _ 5 5 [-21, -20, 20, 21, -9223372036854775808] _ ?_ (by omega) rfl (by omega) (by omega) ?_ ?_).mono ?_; (first | exact hs4.later (ba (b0 _) _) | exact (hs4.later (ba (b0 _) _)).drew); exact Rd.own (own_lit v4 #[.int .i64 (-21), .int .i64 (-20), .int .i64 20, .int .i64 21, .int .i64 (-9223372036854775808)] 5 rfl (Nat.le_refl _) (by omega) rfl); (intro gg oo hgg; injection hgg with hgg; injection hgg with hgg; omega); rintro e w5 ⟨z, _, rfl, hs5, hc5⟩; have cy : Chg p (p + 1) v3 w5 := (by first | exact (hc4.then (ba (b0 v4) _) z4).trans hc5 | exact ((hc4.then (ba (b0 v4) _) z4).drew).trans hc5); replace b3 := cy.cell B3.out (.inr (by omega)); replace c0 := cy.cell C0.out (.inl (by omega)); replace f0 := cy.froz F0.out (by omega) (.inl (by omega))))
    all_goals
      have HT5 := Lib.hid (cy.below HT3.out (by omega) (by omega))
      have HO5 := Lib.hid (HO3.out.chg cy (.inr (by omega)))
      have z5 := cy.size
      go_wp2
      refine bodyPost_ret (v := .tuple #[.agg #[.slice B xs.length d], .int .i64 _]) (by simp [results, Try.results27, go_sem, *]; rfl) rfl ⟨B, _, d, xs, _, rfl, rfl, hn40, ?_, ?_⟩
      · exact (HO5.out.below _ _ _ (by omega)).mono (by omega) (by simp <;> omega)
      · exact bset HT5.out _ _ _ (Nat.le_refl _)
  · go_wp2_with fail
    go_region_held3 (fun w' => w'.cell? ⟨w2.heap.size, 0, none⟩ = some (.slice B xs.length d)) (first | exact b3 | exact set_far b3 (by omega) | exact set_far (set_far b3 (by omega)) (by omega) | go_keep)
      ((go_at_call 97; refine (pick_any p (0 + 100 + 2) 11 _ ?_ (by omega) (by omega)).mono ?_; (first | exact hs4 | exact hs4.drew); rintro e w5 ⟨x, hx, rfl, hs5, hc5⟩; have cy : Chg p (p + 1) v3 w5 := hc4.trans ⟨hc5.os, hc5.tape, hc5.output, hc5.size, hc5.block⟩; replace b3 := cy.cell B3.out (.inr (by omega)); replace c0 := cy.cell C0.out (.inl (by omega)); replace f0 := cy.froz F0.out (by omega) (.inl (by omega))))
    all_goals
      have HT5 := Lib.hid (cy.below HT3.out (by omega) (by omega))
      have HO5 := Lib.hid (HO3.out.chg cy (.inr (by omega)))
      have z5 := cy.size
      go_wp2
      refine bodyPost_ret (v := .tuple #[.agg #[.slice B xs.length d], .int .i64 _]) (by simp [results, Try.results27, go_sem, *]; rfl) rfl ⟨B, _, d, xs, _, rfl, rfl, hn40, ?_, ?_⟩
      · exact (HO5.out.below _ _ _ (by omega)).mono (by omega) (by simp <;> omega)
      · exact bset HT5.out _ _ _ (Nat.le_refl _)

set_option maxRecDepth 20000 in
set_option maxHeartbeats 8000000 in
theorem DrawShiftOf_any (A : Option Addr) (n c : Nat) (bs0 : List UInt8) (w : World) (ha : Rd w w.heap.size 1 A n (byts bs0)) (hn : n ≤ 1048576) :
    Calls Try.prog 24 #[.slice A n c] w (PairP w) := by
  obtain ⟨W, hW⟩ : ∃ W, W = (w.alloc (.cells #[.slice none 0 0] 26)).alloc (.cells #[.slice none 0 0] 26) := ⟨_, rfl⟩
  have T0 : Below w.heap.size w W := by rw [hW]; exact ba (ba (b0 w) _) _
  have c0 : W.cell? ⟨w.heap.size, 0, none⟩ = some (.slice none 0 0) := by rw [hW]; exact cell_alloc (cell_new rfl rfl) _
  have f0 : W.frozen? ⟨w.heap.size, 0, none⟩ = false := by rw [hW]; exact froz_alloc (froz_new rfl) (by simp) _
  have c1 : W.cell? ⟨w.heap.size + 1, 0, none⟩ = some (.slice none 0 0) := by rw [hW]; exact cell_new (by simp) rfl
  have f1 : W.frozen? ⟨w.heap.size + 1, 0, none⟩ = false := by rw [hW]; exact froz_new (by simp)
  have z0 : W.heap.size = w.heap.size + 2 := by rw [hW]; simp
  have haW := ha.up T0
  have HW := Lib.hid hW
  clear hW ha
  go_enter Try.func24, Try.ntmps24
  go_wp2_with fail
  rw [← HW.out]
  refine (l00From_any A n c bs0 _ haW hn).mono ?_
  rintro e w1 ⟨p, hp, rfl, hs1, hb1⟩
  replace c0 := cell_later hb1 c0
  replace f0 := froz_later hb1 f0 (by omega)
  replace c1 := cell_later hb1 c1
  replace f1 := froz_later hb1 f1 (by omega)
  have T1 := bs T0 hb1
  have z1 := hb1.size
  have hlt := hs1.lt
  clear hb1 haW
  go_wp2_with fail
  refine (l03Bent_any p 0 _ hs1 (by omega)).mono ?_
  rintro e w2 ⟨B, n, d, xs, rfl, hxl, hn40, hob, hs2, hc2⟩
  subst hxl
  replace c0 := hc2.cell c0 (.inl (by omega))
  replace f0 := hc2.froz f0 (by omega) (.inl (by omega))
  replace c1 := hc2.cell c1 (.inl (by omega))
  replace f1 := hc2.froz f1 (by omega) (.inl (by omega))
  have z2 := hc2.size
  have TB := ba (b0 w2) (.cells #[.slice B xs.length d] 26)
  have HT3 := Lib.hid (bs (hc2.below T1 (by omega) (by omega)) TB)
  have b3 : (w2.alloc (.cells #[.slice B xs.length d] 26)).cell? ⟨w2.heap.size, 0, none⟩ = some (.slice B xs.length d) := cell_new rfl rfl
  replace c0 := cell_later TB c0
  replace f0 := froz_later TB f0 (by omega)
  replace c1 := cell_later TB c1
  replace f1 := froz_later TB f1 (by omega)
  have hs3 := hs2.later TB
  have HO3 := Lib.hid (hob.bs TB)
  have z3 : (w2.alloc (.cells #[.slice B xs.length d] 26)).heap.size = w2.heap.size + 1 := by simp
  clear hob hc2 hs1 hs2 TB T1
  obtain ⟨v3, hv3⟩ : ∃ v3, v3 = w2.alloc (.cells #[.slice B xs.length d] 26) := ⟨_, rfl⟩
  rw [← hv3] at c0 f0 c1 f1 b3 hs3 HO3 HT3 z3
  have HV := Lib.hid hv3
  clear hv3
  go_wp2_with fail
  rw [← HV.out]
  have B3 := Lib.hid b3
  have C0 := Lib.hid c0
  have F0 := Lib.hid f0
  have C1 := Lib.hid c1
  have F1 := Lib.hid f1
  have hOR := HO3.out.rd
  refine (l02Ok_any w2.heap.size 0 B d xs _ b3 hOR (by omega)).mono ?_
  rintro e v4 ⟨rfl, hbq⟩
  have hs4 := hs3.later hbq
  have z4 := hbq.size
  have HQ := Lib.hid ((Chg.refl p (p + 1) v3).then hbq (Nat.le_refl _))
  have HOR := Lib.hid (hOR.up hbq)
  replace b3 := HQ.out.cell B3.out (.inr (by omega))
  replace c0 := HQ.out.cell C0.out (.inl (by omega))
  replace f0 := HQ.out.froz F0.out (by omega) (.inl (by omega))
  replace c1 := HQ.out.cell C1.out (.inl (by omega))
  replace f1 := HQ.out.froz F1.out (by omega) (.inl (by omega))
  clear hOR hbq
  by_cases hk : cardOk xs = true
  · rw [hk]
    have hxl := cardOk_len hk
    go_wp2_with fail
    refine (one_any p _ 4 _ hs4 (by omega) (by omega)).mono ?_
    rintro e v5 (⟨rfl, hs5, hc5⟩ | ⟨rfl, hs5, hc5⟩)
    all_goals
      have HQ5 := Lib.hid (HQ.out.trans hc5)
      have z5 := hc5.size
      have HOR := Lib.hid (show Rd v5 v5.heap.size 1 B xs.length (ints xs) from (HO3.out.chg HQ5.out (.inr (by omega))).rd)
      replace b3 := HQ5.out.cell B3.out (.inr (by omega))
      replace c0 := HQ5.out.cell C0.out (.inl (by omega))
      replace f0 := HQ5.out.froz F0.out (by omega) (.inl (by omega))
      replace c1 := HQ5.out.cell C1.out (.inl (by omega))
      replace f1 := HQ5.out.froz F1.out (by omega) (.inl (by omega))
    · go_wp2_with fail
      go_region_held3 (fun w' => w'.cell? ⟨w2.heap.size, 0, none⟩ = some (.slice B xs.length d)) (first | exact b3 | exact set_far b3 (by omega) | exact set_far (set_far b3 (by omega)) (by omega) | go_keep)
        ((go_at_call 87; refine (l06Damaged_any p (0 + 100 + 2) w2.heap.size 0 xs.length B d xs _ ?_ (by omega) ?_ ?_ rfl hn40).mono ?_; (first | exact hs5 | exact hs5.drew); exact b3; (first | exact HOR.out | exact HOR.out.drew); rintro e w6 ⟨C, m, g, ys, rfl, hyl, hm40, hob6, hs6, hc6⟩; have hob6' : Ob w6 v5.heap.size w6.heap.size 2 1 (.slice C m g) m (ints ys) := hob6; have HOB := Lib.hid hob6'; have HY := Lib.hid hyl; have cy : Chg p (p + 1) v3 w6 := HQ5.out.trans ⟨hc6.os, hc6.tape, hc6.output, hc6.size, hc6.block⟩; have z6 := cy.size; have z7 := hc6.size; replace b3 := cy.cell B3.out (.inr (by omega)); replace c0 := cy.cell C0.out (.inl (by omega)); replace f0 := cy.froz F0.out (by omega) (.inl (by omega)); replace c1 := cy.cell C1.out (.inl (by omega)); replace f1 := cy.froz F1.out (by omega) (.inl (by omega)); clear hyl hob6 hob6'))
      all_goals
        have HT5 := Lib.hid (cy.below HT3.out (by omega) (by omega))
        have HO5 := Lib.hid (HO3.out.chg cy (.inr (by omega)))
        go_wp2
        refine bodyPost_ret (v := .tuple #[.agg #[.slice B xs.length d], .agg #[.slice C m g]]) (by simp [results, Try.results24, go_sem, *]) rfl ⟨B, _, d, xs, C, _, g, ys, rfl, rfl, hn40, HY.out, hm40, ?_, ?_, ?_⟩
        · exact ((HO5.out.below _ _ _ (by omega)).below _ _ _ (by omega)).mono (by omega) (by simp <;> omega)
        · exact ((HOB.out.below _ _ _ (by omega)).below _ _ _ (by omega)).mono (by omega) (by simp <;> omega)
        · exact bset (bset HT5.out _ _ _ (Nat.le_refl _)) _ _ _ (by omega)
    · go_wp2_with fail
      go_region_held3 (fun w' => w'.cell? ⟨w2.heap.size, 0, none⟩ = some (.slice B xs.length d)) (first | exact b3 | exact set_far b3 (by omega) | exact set_far (set_far b3 (by omega)) (by omega) | go_keep)
        (first
          | (go_at_call 97; refine (pick_any p (0 + 100 + 2) 9 _ ?_ (by omega) (by omega)).mono ?_; (first | exact hs5 | exact hs5.drew); rintro e w5 ⟨x, hx, rfl, hs6, hc6⟩; have hx2 : x ≤ 8 := (by omega); have e9 : IntKind.i64.wrap ((x : Int) - 4) = (x : Int) - 4 := IntWalk.i64_in _ (by omega); have hq : Chg p (p + 1) v3 w5 := HQ5.out.trans ⟨hc6.os, hc6.tape, hc6.output, hc6.size, hc6.block⟩; have z6 : v5.heap.size ≤ w5.heap.size := hc6.size; replace b3 := hq.cell B3.out (.inr (by omega)); replace c0 := hq.cell C0.out (.inl (by omega)); replace f0 := hq.froz F0.out (by omega) (.inl (by omega)); replace c1 := hq.cell C1.out (.inl (by omega)); replace f1 := hq.froz F1.out (by omega) (.inl (by omega)))
          | (go_at_call 102; refine (l06Shift_any w2.heap.size 0 B d xs _ _ ?_ ?_ (by omega) (by omega) (by first | omega | (rw [e9]; omega)) (by first | omega | (rw [e9]; omega))).mono ?_; exact b3; (first | exact (HO3.out.chg hq (.inr (by omega))).rd | exact (HO3.out.chg hq (.inr (by omega))).rd.drew); rintro e w6 ⟨C, g, rfl, how6, hb6⟩; have hb6 : Below w5.heap.size w5 w6 := ⟨hb6.os, hb6.tape, hb6.output, hb6.size, hb6.block⟩; obtain ⟨zs, hzs, how6⟩ : ∃ zs : List Int, List.length zs = xs.length ∧ w6.ownsRow w5.heap.size 2 1 (.slice C xs.length g) xs.length (ints zs) := ⟨_, shiftL_length _ _, how6⟩; have HZS := Lib.hid hzs; clear hzs; have cy := hq.then hb6 (by omega); have z7 := hb6.size; replace b3 := cy.cell B3.out (.inr (by omega)); replace c0 := cy.cell C0.out (.inl (by omega)); replace f0 := cy.froz F0.out (by omega) (.inl (by omega)); replace c1 := cy.cell C1.out (.inl (by omega)); replace f1 := cy.froz F1.out (by omega) (.inl (by omega))))
      all_goals
        have HT5 := Lib.hid (cy.below HT3.out (by omega) (by omega))
        have HO5 := Lib.hid (HO3.out.chg cy (.inr (by omega)))
        have HO6 := Lib.hid (Ob.of how6)
        clear how6 e9
        go_wp2
        refine bodyPost_ret (v := .tuple #[.agg #[.slice B xs.length d], .agg #[.slice C xs.length g]]) (by simp [results, Try.results24, go_sem, *]) rfl ⟨B, _, d, xs, C, _, g, zs, rfl, rfl, hn40, HZS.out, hn40, ?_, ?_, ?_⟩
        · exact ((HO5.out.below _ _ _ (by omega)).below _ _ _ (by omega)).mono (by omega) (by simp <;> omega)
        · exact ((HO6.out.below _ _ _ (by omega)).below _ _ _ (by omega)).mono (by omega) (by simp <;> omega)
        · exact bset (bset HT5.out _ _ _ (Nat.le_refl _)) _ _ _ (by omega)
  · simp only [Bool.not_eq_true] at hk
    rw [hk]
    go_wp2_with fail
    go_region_held3 (fun w' => w'.cell? ⟨w2.heap.size, 0, none⟩ = some (.slice B xs.length d)) (first | exact b3 | exact set_far b3 (by omega) | exact set_far (set_far b3 (by omega)) (by omega) | go_keep)
      ((go_at_call 87; refine (l06Damaged_any p (0 + 100) w2.heap.size 0 xs.length B d xs _ ?_ (by omega) ?_ ?_ rfl hn40).mono ?_; (first | exact hs4 | exact hs4.drew); exact b3; (first | exact HOR.out | exact HOR.out.drew); rintro e w6 ⟨C, m, g, ys, rfl, hyl, hm40, hob6, hs6, hc6⟩; have hob6' : Ob w6 v4.heap.size w6.heap.size 2 1 (.slice C m g) m (ints ys) := hob6; have HOB := Lib.hid hob6'; have HY := Lib.hid hyl; have cy : Chg p (p + 1) v3 w6 := HQ.out.trans ⟨hc6.os, hc6.tape, hc6.output, hc6.size, hc6.block⟩; have z6 := cy.size; have z7 := hc6.size; replace b3 := cy.cell B3.out (.inr (by omega)); replace c0 := cy.cell C0.out (.inl (by omega)); replace f0 := cy.froz F0.out (by omega) (.inl (by omega)); replace c1 := cy.cell C1.out (.inl (by omega)); replace f1 := cy.froz F1.out (by omega) (.inl (by omega)); clear hyl hob6 hob6'))
    all_goals
      have HT5 := Lib.hid (cy.below HT3.out (by omega) (by omega))
      have HO5 := Lib.hid (HO3.out.chg cy (.inr (by omega)))
      go_wp2
      refine bodyPost_ret (v := .tuple #[.agg #[.slice B xs.length d], .agg #[.slice C m g]]) (by simp [results, Try.results24, go_sem, *]) rfl ⟨B, _, d, xs, C, _, g, ys, rfl, rfl, hn40, HY.out, hm40, ?_, ?_, ?_⟩
      · exact ((HO5.out.below _ _ _ (by omega)).below _ _ _ (by omega)).mono (by omega) (by simp <;> omega)
      · exact ((HOB.out.below _ _ _ (by omega)).below _ _ _ (by omega)).mono (by omega) (by simp <;> omega)
      · exact bset (bset HT5.out _ _ _ (Nat.le_refl _)) _ _ _ (by omega)

end Go.Proofs.Ythbgdnjlmaadjaa
