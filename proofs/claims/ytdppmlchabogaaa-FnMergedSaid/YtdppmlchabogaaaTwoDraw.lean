/- Draws of two decks and a field; the part of a card, and its text, in the reference. -/
import Derived.Test.YtdppmlchabogaaaA2
import Derived.Test.YtdppmlchabogaaaTorn
import Derived.Test.YtdppmlchabogaaaPlaces
namespace Go.Proofs.Ytdppmlchabogaaa
open Go.RowKit

set_option maxRecDepth 20000 in
set_option maxHeartbeats 2000000 in
theorem A2Two_any (A : Option Addr) (n c : Nat) (bs0 : List UInt8) (w : World) (ha : Rd w w.heap.size 1 A n (byts bs0)) (hn : n ≤ 1048576) :
    Calls Try.prog 22 #[.slice A n c] w fun e w' => ∃ D cd gs E ce ks, ∃ i j : Nat, e = .returned (.tuple #[.slice D gs.length cd, .slice E ks.length ce, .agg #[.int .i64 (i : Int), .int .i64 (j : Int)]]) ∧ gs.length ≤ 7 ∧ ks.length ≤ 7 ∧ GoodD 2 (cards gs) ∧ GoodD 2 (cards ks) ∧ i < j ∧ j ≤ 2 ∧
      ObD w' w.heap.size w'.heap.size 37 2 D cd gs ∧ ObD w' w.heap.size w'.heap.size 37 2 E ce ks ∧ Below w.heap.size w w' := by
  obtain ⟨W, hW⟩ : ∃ W, W = w.alloc (.cells #[.int .i64 0, .int .i64 0] 27) := ⟨_, rfl⟩
  have TW : Below w.heap.size w W := by rw [hW]; exact ba (b0 w) _
  have haW : Rd W W.heap.size 1 A n (byts bs0) := by rw [hW]; exact ha.a1 _
  have q0 : W.cell? ⟨w.heap.size, 0, none⟩ = some (.int .i64 0) := by rw [hW]; exact cell_new rfl rfl
  have q1 : W.cell? ⟨w.heap.size, 1, none⟩ = some (.int .i64 0) := by rw [hW]; exact cell_new rfl rfl
  have p0 : W.frozen? ⟨w.heap.size, 0, none⟩ = false := by rw [hW]; exact froz_new rfl
  have p1 : W.frozen? ⟨w.heap.size, 1, none⟩ = false := by rw [hW]; exact froz_new rfl
  have hWl : w.heap.size < W.heap.size := World.block_lt_of_cell? _ _ q0
  have HW := Lib.hid hW
  clear hW
  go_enter Try.func22, Try.ntmps22
  go_wp2_with fail
  rw [← HW.out]
  refine (l00From_any A n c bs0 _ haW hn).mono ?_; rintro e w1 ⟨p, hp, rfl, hs1, hb1⟩
  have z1 := hb1.size
  have hlt := hs1.lt
  go_wp2_with fail
  refine (l07Draw_any p 0 2 7 _ hs1 (by omega) (by omega) (by omega)).mono ?_
  rintro e w2 ⟨D, cd, gs, rfl, hg, hgd, hod, hs2, hc2⟩
  have HB2 := Lib.hid (hc2.below hb1 hp z1)
  have z2 := hc2.size
  have HOD2 := Lib.hid hod
  clear hc2 hb1 hs1 hod
  go_wp2_with fail
  refine (l07Draw_any p _ 2 7 _ hs2 (by omega) (by omega) (by omega)).mono ?_
  rintro e w3 ⟨E, ce, ks, rfl, hk, hkd, hoe, hs3, hc3⟩
  have HB3 := Lib.hid (hc3.below HB2.out hp (by omega))
  have z3 := hc3.size
  have HOD3 := Lib.hid (HOD2.out.chg hc3 (.inr (by omega)))
  have HOE3 := Lib.hid hoe
  clear hc3 hs2 hoe
  go_wp2_with fail
  refine (pick_any p _ 2 _ hs3 (by omega) (by omega)).mono ?_
  rintro e w4 ⟨x, hx, rfl, hs4, hc4⟩
  have hx2 : x < 2 := by omega
  have HB4 := Lib.hid (hc4.below HB3.out hp (by omega))
  have z4 := hc4.size
  have HOD4 := Lib.hid (HOD3.out.chg hc4 (.inr (by omega)))
  have HOE4 := Lib.hid (HOE3.out.chg hc4 (.inr (by omega)))
  have zw : IntKind.i64.wrap (2 - (x : Int)) = ((2 - x : Nat) : Int) := by rw [IntKind.wrap_i64]; omega
  clear hc4 hs3 hx
  have zx : IntKind.i64.wrap ((x : Int) + 1) = (x : Int) + 1 := by rw [IntKind.wrap_i64]; omega
  go_wp2_with fail
  refine (pick_any p _ ((2 - x : Nat) : Int) _ hs4 (by omega) (by omega)).mono ?_
  rintro e w5 ⟨y, hy, rfl, hs5, hc5⟩
  have hy2 : x + 1 + y ≤ 2 := by omega
  have HB5 := Lib.hid (hc5.below HB4.out hp (by omega))
  have z5 := hc5.size
  have HOD5 := Lib.hid (HOD4.out.chg hc5 (.inr (by omega)))
  have HOE5 := Lib.hid (HOE4.out.chg hc5 (.inr (by omega)))
  have zy : IntKind.i64.wrap ((x : Int) + 1 + (y : Int)) = ((x + 1 + y : Nat) : Int) := by rw [IntKind.wrap_i64]; omega
  clear hc5 hs4 hs5 hy
  replace q0 := cell_later HB5.out q0
  replace q1 := cell_later HB5.out q1
  replace p0 := froz_later HB5.out p0 hWl
  replace p1 := froz_later HB5.out p1 hWl
  go_wp2
  refine bodyPost_ret (v := .tuple #[.slice D gs.length cd, .slice E ks.length ce, .agg #[.int .i64 (x : Int), .int .i64 ((x + 1 + y : Nat) : Int)]]) (by simp [results, Try.results22, go_sem, *]) rfl
    ⟨D, cd, gs, E, ce, ks, x, x + 1 + y, rfl, hg, hk, hgd, hkd, by omega, hy2, ?_, ?_, ?_⟩
  · exact (((HOD5.out.mono (lo' := w.heap.size + 1) (by omega) (Nat.le_refl _)).below _ _ _ (by omega)).below _ _ _ (by omega)).mono (by omega) (by simp; omega)
  · exact (((HOE5.out.mono (lo' := w.heap.size + 1) (by omega) (Nat.le_refl _)).below _ _ _ (by omega)).below _ _ _ (by omega)).mono (by omega) (by simp; omega)
  · exact bset (bset (bs TW HB5.out) _ _ _ (Nat.le_refl _)) _ _ _ (Nat.le_refl _)

set_option maxHeartbeats 2000000 in
theorem spPartOf_good (A : Option Addr) (c : Nat) (xs : List Int) (i j wd : Nat) (w : World) (hg : GoodX wd xs) (h1 : 1 ≤ wd) (h20 : wd ≤ 20) (hij : i < j) (hj : j ≤ wd) (ha : Rd w w.heap.size 1 A xs.length (ints xs)) (hc : xs.length ≤ c) :
    Calls Try.prog 39 #[.agg #[.slice A xs.length c], .agg #[.int .i64 (i : Int), .int .i64 (j : Int)]] w fun e w' => ∃ B d, e = .returned (.tuple #[.agg #[.slice B (j - i) d], .int .i64 0]) ∧
      Ob w' w.heap.size w'.heap.size 2 1 (.slice B (j - i) d) (j - i) (ints (part xs (i : Int) (j : Int))) ∧ Below w.heap.size w w' := by
  have hxl : j ≤ xs.length := by have := hg.1; omega
  obtain ⟨b, o, rfl, hbb, _⟩ := ha.at_ (show 0 < xs.length by omega)
  have HF := Lib.hid (show fieldC xs (i : Int) (j : Int) = 0 from fieldC_ok (by unfold cardOk; rw [hg.2.2, insideB_mk (by have := hg.1; omega) (by have := hg.1; omega)]; rfl) (fieldOk_mk (by omega) (by omega) (by omega)))
  have HL := Lib.hid (part_len hij hxl)
  have hln : xs.length ≤ 1048576 := by have := hg.1; omega
  obtain ⟨W, hW⟩ : ∃ W, W = ((w.alloc (.cells #[.slice (some ⟨b, o, none⟩) xs.length c] 37)).alloc (.cells #[.int .i64 (i : Int), .int .i64 (j : Int)] 27)).alloc (.cells #[.slice none 0 0] 37) := ⟨_, rfl⟩
  have TW : Below w.heap.size w W := by rw [hW]; exact ba (ba (ba (b0 w) _) _) _
  have haW : Rd W W.heap.size 1 (some ⟨b, o, none⟩) xs.length (ints xs) := by rw [hW]; exact ((ha.a1 _).a1 _).a1 _
  have k0 : W.cell? ⟨w.heap.size, 0, none⟩ = some (.slice (some ⟨b, o, none⟩) xs.length c) := by rw [hW]; exact cell_alloc (cell_alloc (cell_new rfl rfl) _) _
  have k1 : W.cell? ⟨w.heap.size + 1, 0, none⟩ = some (.int .i64 (i : Int)) := by rw [hW]; exact cell_alloc (cell_new (by simp) rfl) _
  have k2 : W.cell? ⟨w.heap.size + 1, 1, none⟩ = some (.int .i64 (j : Int)) := by rw [hW]; exact cell_alloc (cell_new (by simp) rfl) _
  have q0 : W.cell? ⟨w.heap.size + 1 + 1, 0, none⟩ = some (.slice none 0 0) := by rw [hW]; exact cell_new (by simp) rfl
  have p0 : W.frozen? ⟨w.heap.size + 1 + 1, 0, none⟩ = false := by rw [hW]; exact froz_new (by simp)
  have hWl : w.heap.size + 1 + 1 < W.heap.size := World.block_lt_of_cell? _ _ q0
  have HW := Lib.hid hW
  clear hW ha hg
  go_enter Try.func39, Try.ntmps39
  go_wp2_with fail
  rw [← HW.out]
  refine (l02Code_any _ _ _ _ xs (i : Int) (j : Int) _ k0 haW hln).mono ?_; rw [HF.out]; rintro e w1 ⟨rfl, hb1⟩
  have ha1 := haW.up hb1
  replace k0 := cell_later hb1 k0
  replace k1 := cell_later hb1 k1
  replace k2 := cell_later hb1 k2
  replace q0 := cell_later hb1 q0
  replace p0 := froz_later hb1 p0 hWl
  have T1 := bs TW hb1
  have hz1 := hb1.size
  clear hb1 haW TW
  go_wp2_with fail
  refine (l02Part_any _ _ b o c xs i j _ k0 hij hxl hc).mono ?_; rintro e w2 ⟨rfl, hb2⟩
  have ha2 := rd_part (ha1.up hb2) hij hxl
  replace q0 := cell_later hb2 q0
  replace p0 := froz_later hb2 p0 (by omega)
  have T2 := bs T1 hb2
  have hz2 := hb2.size
  clear hb2 ha1 T1 k0 k1 k2
  go_wp2_with fail
  refine (l00Own_n (j - i) _ _ (part xs (i : Int) (j : Int)) _ HL.out ha2 (by omega)).mono ?_; rintro e w3 ⟨B, d, rfl, ho3, hb3⟩
  replace q0 := cell_later hb3 q0
  replace p0 := froz_later hb3 p0 (by omega)
  have T3 := bs T2 hb3
  have HO := Lib.hid (Ob.of ho3)
  have hz3 := hb3.size
  clear hb3 ho3 ha2 T2
  go_wp2
  refine bodyPost_ret (v := .tuple #[.agg #[.slice B (j - i) d], .int .i64 0]) (by simp [results, Try.results39, go_sem, *]) rfl ⟨B, d, rfl, ?_, ?_⟩
  · exact ((HO.out.mono (lo' := w.heap.size + 1 + 1 + 1) (by omega) (Nat.le_refl _)).below _ _ _ (by omega)).mono (by omega) (by simp)
  · exact bset T3 _ _ _ (by omega)

set_option maxHeartbeats 2000000 in
theorem spReadText_good (A : Option Addr) (c n : Nat) (xs : List Int) (w : World) (hn : xs.length = n) (h1 : 1 ≤ n) (h20 : n ≤ 20) (hg : xs.all holeB = true) (hl : legalL xs = true) (ha : Rd w w.heap.size 1 A n (ints xs)) :
    Calls Try.prog 40 #[.agg #[.slice A n c]] w fun e w' => e = .returned (.tuple #[.string (bs_ (textL xs)), .int .i64 0]) ∧ Below w.heap.size w w' := by
  have HC := Lib.hid (show cardOk xs = true by unfold cardOk; rw [hg, insideB_mk (by omega) (by omega)]; rfl)
  have HK := Lib.hid (keyT_yes hl)
  have HL := Lib.hid hl
  have HN := Lib.hid hn
  have TW : Below w.heap.size w (w.alloc (.cells #[.slice A n c] 37)) := ba (b0 w) _
  have k0 : (w.alloc (.cells #[.slice A n c] 37)).cell? ⟨w.heap.size, 0, none⟩ = some (.slice A xs.length c) := by rw [hn]; exact cell_new rfl rfl
  have haW : Rd (w.alloc (.cells #[.slice A n c] 37)) (w.alloc (.cells #[.slice A n c] 37)).heap.size 1 A xs.length (ints xs) := by rw [hn]; exact ha.a1 _
  clear hg hl hn ha
  go_enter Try.func40, Try.ntmps40
  go_wp2_with fail
  refine (l02Ok_any _ _ A c xs _ k0 haW (by rw [HN.out]; omega)).mono ?_; rw [HC.out]; rintro e w1 ⟨rfl, hb1⟩
  replace k0 := cell_later hb1 k0
  have ha1 := haW.up hb1
  rw [HN.out] at k0 ha1
  have T1 := bs TW hb1
  clear hb1 haW TW
  go_wp2_with fail
  refine (l03Text_any n A c xs _ HN.out ha1 (by omega)).mono ?_; rw [HK.out, HL.out]; rintro e w2 ⟨rfl, hb2⟩
  go_wp2
  go_ret2
  exact ⟨rfl, bs T1 hb2⟩
end Go.Proofs.Ytdppmlchabogaaa
