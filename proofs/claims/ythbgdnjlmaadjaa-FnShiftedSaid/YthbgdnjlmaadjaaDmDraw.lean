/- The draws of the laws on damages. -/
import Derived.Test.YthbgdnjlmaadjaaDamage
import Derived.Test.YthbgdnjlmaadjaaA2
namespace Go.Proofs.Ythbgdnjlmaadjaa
open Go.RowKit

/-- What a draw of two cards hands back. -/
def PairP (w : World) (e : Ending) (w' : World) : Prop := ∃ B n d xs C m g ys, e = .returned (.tuple #[.agg #[.slice B n d], .agg #[.slice C m g]]) ∧ List.length xs = n ∧ n ≤ 40 ∧ List.length ys = m ∧ m ≤ 40 ∧
  Ob w' w.heap.size w'.heap.size 2 1 (.slice B n d) n (ints xs) ∧ Ob w' w.heap.size w'.heap.size 2 1 (.slice C m g) m (ints ys) ∧ Below w.heap.size w w'
set_option maxRecDepth 20000 in
set_option maxHeartbeats 8000000 in
theorem l06Pair_any (A : Option Addr) (n c : Nat) (bs0 : List UInt8) (w : World) (ha : Rd w w.heap.size 1 A n (byts bs0)) (hn : n ≤ 1048576) :
    Calls Try.prog 76 #[.slice A n c] w (PairP w) := by
  obtain ⟨W, hW⟩ : ∃ W, W = (w.alloc (.cells #[.slice none 0 0] 26)).alloc (.cells #[.slice none 0 0] 26) := ⟨_, rfl⟩
  have T0 : Below w.heap.size w W := by rw [hW]; exact ba (ba (b0 w) _) _
  have c0 : W.cell? ⟨w.heap.size, 0, none⟩ = some (.slice none 0 0) := by rw [hW]; exact cell_alloc (cell_new rfl rfl) _
  have f0 : W.frozen? ⟨w.heap.size, 0, none⟩ = false := by rw [hW]; exact froz_alloc (froz_new rfl) (by simp) _
  have k0 : W.cell? ⟨w.heap.size + 1, 0, none⟩ = some (.slice none 0 0) := by rw [hW]; exact cell_new (by simp) rfl
  have g0 : W.frozen? ⟨w.heap.size + 1, 0, none⟩ = false := by rw [hW]; exact froz_new (by simp)
  have z0 : W.heap.size = w.heap.size + 2 := by rw [hW]; simp
  have haW := ha.up T0
  have HW := Lib.hid hW
  clear hW ha
  go_enter Try.func76, Try.ntmps76
  go_wp2_with fail
  rw [← HW.out]
  refine (l00From_any A n c bs0 _ haW hn).mono ?_
  rintro e w1 ⟨p, hp, rfl, hs1, hb1⟩
  have c1 := cell_later hb1 c0
  have f1 := froz_later hb1 f0 (by omega)
  have k1 := cell_later hb1 k0
  have g1 := froz_later hb1 g0 (by omega)
  have T1 := bs T0 hb1
  have z1 := hb1.size
  have hlt := hs1.lt
  clear hb1 c0 f0 k0 g0 haW
  go_wp2_with fail
  refine (l03Bent_any p 0 _ hs1 (by omega)).mono ?_
  rintro e w2 ⟨B, n, d, xs, rfl, hxl, hn40, hob, hs2, hc2⟩
  have c2 := hc2.cell c1 (.inl (by omega))
  have f2 := hc2.froz f1 (by omega) (.inl (by omega))
  have k2 := hc2.cell k1 (.inl (by omega))
  have g2 := hc2.froz g1 (by omega) (.inl (by omega))
  have z2 := hc2.size
  have TB := ba (b0 w2) (.cells #[.slice B n d] 26)
  have HT3 := Lib.hid (bs (hc2.below T1 (by omega) (by omega)) TB)
  have b3 : (w2.alloc (.cells #[.slice B n d] 26)).cell? ⟨w2.heap.size, 0, none⟩ = some (.slice B n d) := cell_new rfl rfl
  have c3 := cell_later TB c2
  have f3 := froz_later TB f2 (by omega)
  have k3 := cell_later TB k2
  have g3 := froz_later TB g2 (by omega)
  have hs3 := hs2.later TB
  have HO3 := Lib.hid (hob.bs TB)
  have HX := Lib.hid hxl
  have z3 : (w2.alloc (.cells #[.slice B n d] 26)).heap.size = w2.heap.size + 1 := by simp
  clear hxl hob hc2 hs1 hs2 c1 f1 k1 g1 c2 f2 k2 g2 TB T1
  go_wp2_with fail
  refine (one_any p _ 5 _ hs3 (by omega) (by omega)).mono ?_
  rintro e w4 (⟨rfl, hs4, hc4⟩ | ⟨rfl, hs4, hc4⟩)
  all_goals
    have b4 := hc4.cell b3 (.inr (by omega))
    have c4 := hc4.cell c3 (.inl (by omega))
    have f4 := hc4.froz f3 (by omega) (.inl (by omega))
    have k4 := hc4.cell k3 (.inl (by omega))
    have g4 := hc4.froz g3 (by omega) (.inl (by omega))
    have z4 := hc4.size
    have HT4 := Lib.hid (hc4.below HT3.out (by omega) (by omega))
    have HO4 := Lib.hid (HO3.out.chg hc4 (.inr (by omega)))
    have B4 := Lib.hid b4
    have C4 := Lib.hid c4
    have K4 := Lib.hid k4
    have F4 := Lib.hid f4
    have G4 := Lib.hid g4
    clear b3 c3 f3 k3 g3 hc4 hs3
  · go_wp2_with fail
    go_region_held3 (fun w' => w'.cell? ⟨w2.heap.size, 0, none⟩ = some (.slice B n d)) (first | exact b4 | exact set_far b4 (by omega) | exact set_far (set_far b4 (by omega)) (by omega) | go_keep)
      ((go_at_call 86; refine (l03Bent_any p (0 + 100 + 2) _ ?_ (by omega)).mono ?_; (first | exact hs4 | exact hs4.drew); rintro e w5 ⟨C, m, g, ys, rfl, hyl, hm40, hob5, hs5, hc5⟩; have cx : Chg p (p + 1) w4 w5 := ⟨hc5.os, hc5.tape, hc5.output, hc5.size, hc5.block⟩; replace b4 := cx.cell B4.out (.inr (by omega)); replace c4 := cx.cell C4.out (.inl (by omega)); replace f4 := cx.froz F4.out (by omega) (.inl (by omega)); replace k4 := cx.cell K4.out (.inl (by omega)); replace g4 := cx.froz G4.out (by omega) (.inl (by omega))))
    all_goals
      have HT5 := Lib.hid (cx.below HT4.out (by omega) (by omega))
      have HO5 := Lib.hid (HO4.out.chg cx (.inr (by omega)))
      have HY := Lib.hid hyl
      have hob5' : Ob w5 w4.heap.size w5.heap.size 2 1 (.slice C m g) m (ints ys) := hob5
      have HOB := Lib.hid hob5'
      have z5 := cx.size
      clear hyl hob5 hob5' hc5 cx
      go_wp2
      refine bodyPost_ret (v := .tuple #[.agg #[.slice B n d], .agg #[.slice C m g]]) (by simp [results, Try.results76, go_sem, *]) rfl ⟨B, n, d, xs, C, m, g, ys, rfl, HX.out, hn40, HY.out, hm40, ?_, ?_, ?_⟩
      · exact ((HO5.out.below _ _ _ (by omega)).below _ _ _ (by omega)).mono (by omega) (by simp; omega)
      · exact ((HOB.out.below _ _ _ (by omega)).below _ _ _ (by omega)).mono (by omega) (by simp)
      · exact bset (bset HT5.out _ _ _ (Nat.le_refl _)) _ _ _ (by omega)
  · go_wp2_with fail
    go_region_held3 (fun w' => w'.cell? ⟨w2.heap.size, 0, none⟩ = some (.slice B n d)) (first | exact b4 | exact set_far b4 (by omega) | exact set_far (set_far b4 (by omega)) (by omega) | go_keep)
      ((go_at_call 87; refine (l06Damaged_any p (0 + 100 + 2) w2.heap.size 0 n B d xs _ ?_ (by omega) ?_ ?_ HX.out hn40).mono ?_; (first | exact hs4 | exact hs4.drew); (rw [HX.out]; exact b4); (rw [HX.out]; first | exact HO4.out.rd | exact HO4.out.rd.drew); rintro e w5 ⟨C, m, g, ys, rfl, hyl, hm40, hob5, hs5, hc5⟩; have cx : Chg p (p + 1) w4 w5 := ⟨hc5.os, hc5.tape, hc5.output, hc5.size, hc5.block⟩; replace b4 := cx.cell B4.out (.inr (by omega)); replace c4 := cx.cell C4.out (.inl (by omega)); replace f4 := cx.froz F4.out (by omega) (.inl (by omega)); replace k4 := cx.cell K4.out (.inl (by omega)); replace g4 := cx.froz G4.out (by omega) (.inl (by omega))))
    all_goals
      have HT5 := Lib.hid (cx.below HT4.out (by omega) (by omega))
      have HO5 := Lib.hid (HO4.out.chg cx (.inr (by omega)))
      have HY := Lib.hid hyl
      have hob5' : Ob w5 w4.heap.size w5.heap.size 2 1 (.slice C m g) m (ints ys) := hob5
      have HOB := Lib.hid hob5'
      have z5 := cx.size
      clear hyl hob5 hob5' hc5 cx
      go_wp2
      refine bodyPost_ret (v := .tuple #[.agg #[.slice B n d], .agg #[.slice C m g]]) (by simp [results, Try.results76, go_sem, *]) rfl ⟨B, n, d, xs, C, m, g, ys, rfl, HX.out, hn40, HY.out, hm40, ?_, ?_, ?_⟩
      · exact ((HO5.out.below _ _ _ (by omega)).below _ _ _ (by omega)).mono (by omega) (by simp; omega)
      · exact ((HOB.out.below _ _ _ (by omega)).below _ _ _ (by omega)).mono (by omega) (by simp)
      · exact bset (bset HT5.out _ _ _ (Nat.le_refl _)) _ _ _ (by omega)

set_option maxHeartbeats 2000000 in
theorem DrawDistanceOf_any (A : Option Addr) (n c : Nat) (bs0 : List UInt8) (w : World) (ha : Rd w w.heap.size 1 A n (byts bs0)) (hn : n ≤ 1048576) :
    Calls Try.prog 8 #[.slice A n c] w (PairP w) := by
  obtain ⟨W, hW⟩ : ∃ W, W = (w.alloc (.cells #[.slice none 0 0] 26)).alloc (.cells #[.slice none 0 0] 26) := ⟨_, rfl⟩
  have T0 : Below w.heap.size w W := by rw [hW]; exact ba (ba (b0 w) _) _
  have c0 : W.cell? ⟨w.heap.size, 0, none⟩ = some (.slice none 0 0) := by rw [hW]; exact cell_alloc (cell_new rfl rfl) _
  have f0 : W.frozen? ⟨w.heap.size, 0, none⟩ = false := by rw [hW]; exact froz_alloc (froz_new rfl) (by simp) _
  have k0 : W.cell? ⟨w.heap.size + 1, 0, none⟩ = some (.slice none 0 0) := by rw [hW]; exact cell_new (by simp) rfl
  have g0 : W.frozen? ⟨w.heap.size + 1, 0, none⟩ = false := by rw [hW]; exact froz_new (by simp)
  have z0 : W.heap.size = w.heap.size + 2 := by rw [hW]; simp
  have haW := ha.up T0
  have HW := Lib.hid hW
  clear hW ha
  go_enter Try.func8, Try.ntmps8
  go_wp2_with fail
  rw [← HW.out]
  refine (l06Pair_any A n c bs0 _ haW hn).mono ?_
  rintro e w1 ⟨B, n, d, xs, C, m, g, ys, rfl, hxl, hn40, hyl, hm40, ho1, ho2, hb1⟩
  have c1 := cell_later hb1 c0
  have f1 := froz_later hb1 f0 (by omega)
  have k1 := cell_later hb1 k0
  have g1 := froz_later hb1 g0 (by omega)
  have HX := Lib.hid hxl
  have HY := Lib.hid hyl
  clear hxl hyl c0 f0 k0 g0 haW
  go_wp2
  refine bodyPost_ret (v := .tuple #[.agg #[.slice B n d], .agg #[.slice C m g]]) (by simp [results, Try.results8, go_sem, *]) rfl ⟨B, n, d, xs, C, m, g, ys, rfl, HX.out, hn40, HY.out, hm40, ?_, ?_, ?_⟩
  · exact ((ho1.below _ _ _ (by omega)).below _ _ _ (by omega)).mono (by omega) (by simp)
  · exact ((ho2.below _ _ _ (by omega)).below _ _ _ (by omega)).mono (by omega) (by simp)
  · exact bset (bset (bs T0 hb1) _ _ _ (Nat.le_refl _)) _ _ _ (by omega)

/-- What a draw of one card hands back. -/
def CardP (w : World) (e : Ending) (w' : World) : Prop := ∃ B n d xs, e = .returned (.agg #[.slice B n d]) ∧ List.length xs = n ∧ n ≤ 40 ∧ Ob w' w.heap.size w'.heap.size 2 1 (.slice B n d) n (ints xs) ∧ Below w.heap.size w w'
set_option maxHeartbeats 4000000 in
theorem DrawRepairCard_any (A : Option Addr) (n c : Nat) (bs0 : List UInt8) (w : World) (ha : Rd w w.heap.size 1 A n (byts bs0)) (hn : n ≤ 1048576) :
    Calls Try.prog 15 #[.slice A n c] w (CardP w) := by
  obtain ⟨W, hW⟩ : ∃ W, W = w.alloc (.cells #[.slice none 0 0] 26) := ⟨_, rfl⟩
  have T0 : Below w.heap.size w W := by rw [hW]; exact ba (b0 w) _
  have c0 : W.cell? ⟨w.heap.size, 0, none⟩ = some (.slice none 0 0) := by rw [hW]; exact cell_new rfl rfl
  have f0 : W.frozen? ⟨w.heap.size, 0, none⟩ = false := by rw [hW]; exact froz_new rfl
  have z0 : W.heap.size = w.heap.size + 1 := by rw [hW]; simp
  have haW := ha.up T0
  have HW := Lib.hid hW
  clear hW ha
  go_enter Try.func15, Try.ntmps15
  go_wp2_with fail
  rw [← HW.out]
  refine (l00From_any A n c bs0 _ haW hn).mono ?_
  rintro e w1 ⟨p, hp, rfl, hs1, hb1⟩
  have c1 := cell_later hb1 c0
  have f1 := froz_later hb1 f0 (by omega)
  have T1 := bs T0 hb1
  have z1 := hb1.size
  have hlt := hs1.lt
  clear hb1 c0 f0 haW
  go_wp2_with fail
  refine (l03Bent_any p 0 _ hs1 (by omega)).mono ?_
  rintro e w2 ⟨B, n, d, xs, rfl, hxl, hn40, hob, hs2, hc2⟩
  have c2 := hc2.cell c1 (.inl (by omega))
  have f2 := hc2.froz f1 (by omega) (.inl (by omega))
  have z2 := hc2.size
  have TB := ba (b0 w2) (.cells #[.slice B n d] 26)
  have HT3 := Lib.hid (bs (hc2.below T1 (by omega) (by omega)) TB)
  have b3 : (w2.alloc (.cells #[.slice B n d] 26)).cell? ⟨w2.heap.size, 0, none⟩ = some (.slice B xs.length d) := by rw [hxl]; exact cell_new rfl rfl
  have c3 := cell_later TB c2
  have f3 := froz_later TB f2 (by omega)
  have hs3 := hs2.later TB
  have HO3 := Lib.hid (hob.bs TB)
  have HX := Lib.hid hxl
  have z3 : (w2.alloc (.cells #[.slice B n d] 26)).heap.size = w2.heap.size + 1 := by simp
  clear hxl hob hc2 hs1 hs2 c1 f1 c2 f2 TB T1
  go_wp2_with fail
  refine (l06Damaged_any p (0 + 100) w2.heap.size 0 n B d xs _ hs3 (by omega) b3 (by rw [HX.out]; exact HO3.out.rd) HX.out hn40).mono ?_
  rintro e w5 ⟨C, m, g, ys, rfl, hyl, hm40, hob5, hs5, hc5⟩
  have c5 := hc5.cell c3 (.inl (by omega))
  have f5 := hc5.froz f3 (by omega) (.inl (by omega))
  have z5 := hc5.size
  have HY := Lib.hid hyl
  have HT5 := Lib.hid (hc5.below HT3.out (by omega) (by omega))
  clear hyl b3 c3 f3 hc5
  go_wp2
  refine bodyPost_ret (v := .agg #[.slice C m g]) (by simp [results, Try.results15, go_sem, *]) rfl ⟨C, m, g, ys, rfl, HY.out, hm40, ?_, ?_⟩
  · exact (hob5.below _ _ _ (by omega)).mono (by omega) (by simp)
  · exact bset HT5.out _ _ _ (Nat.le_refl _)

set_option maxHeartbeats 4000000 in
theorem DrawRepairColumn_any (A : Option Addr) (n c : Nat) (bs0 : List UInt8) (w : World) (ha : Rd w w.heap.size 1 A n (byts bs0)) (hn : n ≤ 1048576) :
    Calls Try.prog 18 #[.slice A n c] w fun e w' => ∃ z : Int, e = .returned (.int .i64 z) ∧ Below w.heap.size w w' := by
  go_enter Try.func18, Try.ntmps18
  go_wp2_with fail
  refine (l00From_any A n c bs0 _ ha hn).mono ?_; rintro e w1 ⟨p, hp, rfl, hs1, hb1⟩
  have hlt := hs1.lt
  go_wp2_with fail
  refine (one_any p 0 10 _ hs1 (by omega) (by omega)).mono ?_
  rintro e w2 (⟨rfl, hs2, hc2⟩ | ⟨rfl, hs2, hc2⟩)
  · have T2 := hc2.below hb1 hp hb1.size
    have hz2 := hs2.lt
    have TB := ba (b0 w2) (.cells #[.int .i64 (-1), .int .i64 0, .int .i64 4095, .int .i64 4096, .int .i64 (-9223372036854775808)] 2)
    go_wp2_with fail
    refine (among_any p (0 + 2) _ 5 5 [-1, 0, 4095, 4096, -9223372036854775808] _ (hs2.later TB) (by omega) rfl (by omega) (by omega) (Rd.own (own_lit w2 #[.int .i64 (-1), .int .i64 0, .int .i64 4095, .int .i64 4096, .int .i64 (-9223372036854775808)] 5 rfl (Nat.le_refl _) (by omega) rfl)) (by intro gg oo hgg; injection hgg with hgg; injection hgg with hgg; omega)).mono ?_
    rintro e w3 ⟨z, _, rfl, hs3, hc3⟩
    go_wp2
    go_ret
    exact ⟨z, rfl, hc3.below (bs T2 TB) hp (by have := T2.size; simp; omega)⟩
  · have T2 := hc2.below hb1 hp hb1.size
    go_wp2_with fail
    refine (pick_any p (0 + 2) 4096 _ hs2 (by omega) (by omega)).mono ?_
    rintro e w3 ⟨x, _, rfl, hs3, hc3⟩
    go_wp2
    go_ret
    exact ⟨x, rfl, hc3.below T2 hp T2.size⟩
end Go.Proofs.Ythbgdnjlmaadjaa
