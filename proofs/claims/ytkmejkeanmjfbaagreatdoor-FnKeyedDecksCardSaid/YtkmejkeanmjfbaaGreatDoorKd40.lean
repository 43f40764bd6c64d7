/- The draws of a column to be corrected and of program cards; the texts of program cards, in the reference. -/
import Derived.Test.YtkmejkeanmjfbaaGreatDoorKd34
import Derived.Test.YtkmejkeanmjfbaaGreatDoorKd36
import Derived.Test.YtkmejkeanmjfbaaGreatDoorKd39
/-! ### CoDraw -/
namespace Go.Proofs.YtkmejkeanmjfbaaGreatDoor
open Go.RowKit

abbrev coB : ByteArray := { data := #[65, 90, 48, 32, 45, 38, 47, 35, 97] }
def CorP (w : World) (e : Ending) (w' : World) : Prop := ∃ (B : Option Addr) (n d : Nat) (xs : List Int) (k : Int) (ch : UInt8), e = .returned (.tuple #[.agg #[.slice B n d], .int .i64 k, .int .u8 (ch.toNat : Int)]) ∧ xs.length = n ∧ n ≤ 40 ∧
  Ob w' w.heap.size w'.heap.size 2 1 (.slice B n d) n (ints xs) ∧ Below w.heap.size w w'
set_option maxRecDepth 20000 in
set_option maxHeartbeats 8000000 in
theorem DrawCorrectColumn_any (A : Option Addr) (n c : Nat) (bs0 : List UInt8) (w : World) (ha : Rd w w.heap.size 1 A n (byts bs0)) (hn : n ≤ 1048576) :
    Calls Tryz.prog 11 #[.slice A n c] w (CorP w) := by
  obtain ⟨W, hW⟩ : ∃ W, W = w.alloc (.cells #[.slice none 0 0] 26) := ⟨_, rfl⟩
  have T0 : Below w.heap.size w W := by rw [hW]; exact ba (b0 w) _
  have c0 : W.cell? ⟨w.heap.size, 0, none⟩ = some (.slice none 0 0) := by rw [hW]; exact cell_new rfl rfl
  have f0 : W.frozen? ⟨w.heap.size, 0, none⟩ = false := by rw [hW]; exact froz_new rfl
  have z0 : W.heap.size = w.heap.size + 1 := by rw [hW]; simp
  have haW := ha.up T0
  have HW := Lib.hid hW
  clear hW ha
  go_enter Tryz.func11, Tryz.ntmps11
  go_wp2_with fail
  rw [← HW.out]
  refine (l00From_any A n c bs0 _ haW hn).mono ?_
  rintro e w1 ⟨p, hp, rfl, hs1, hb1⟩
  replace c0 := cell_later hb1 c0
  replace f0 := froz_later hb1 f0 (by omega)
  have T1 := bs T0 hb1
  have z1 := hb1.size
  have hlt := hs1.lt
  clear hb1 haW
  go_wp2_with fail
  refine (l03Bent_any p 0 _ hs1 (by omega)).mono ?_
  rintro e w2 ⟨B, n, d, xs, rfl, hxl, hn40, hob, hs2, hc2⟩
  subst hxl
  replace c0 := hc2.cell c0 (.inl (by omega))
  replace f0 := hc2.froz f0 (by omega) (.inl (by omega))
  have z2 := hc2.size
  have TB := ba (b0 w2) (.cells #[.slice B xs.length d] 26)
  have HT3 := Lib.hid (bs (hc2.below T1 (by omega) (by omega)) TB)
  have b3 : (w2.alloc (.cells #[.slice B xs.length d] 26)).cell? ⟨w2.heap.size, 0, none⟩ = some (.slice B xs.length d) := cell_new rfl rfl
  replace c0 := cell_later TB c0
  replace f0 := froz_later TB f0 (by omega)
  have hs3 := hs2.later TB
  have HO3 := Lib.hid (hob.bs TB)
  have z3 : (w2.alloc (.cells #[.slice B xs.length d] 26)).heap.size = w2.heap.size + 1 := by simp
  clear hob hc2 hs1 hs2 TB T1
  obtain ⟨v3, hv3⟩ : ∃ v3, v3 = w2.alloc (.cells #[.slice B xs.length d] 26) := ⟨_, rfl⟩
  rw [← hv3] at c0 f0 b3 hs3 HO3 HT3 z3
  have HV := Lib.hid hv3
  clear hv3
  go_wp2_with fail
  rw [← HV.out]
  refine (pick_any p _ 8 _ hs3 (by omega) (by omega)).mono ?_
  rintro e v4 ⟨x, hx, rfl, hs4, hc4⟩
  replace b3 := hc4.cell b3 (.inr (by omega))
  replace c0 := hc4.cell c0 (.inl (by omega))
  replace f0 := hc4.froz f0 (by omega) (.inl (by omega))
  have z4 := hc4.size
  have HT4 := Lib.hid (hc4.below HT3.out (by omega) (by omega))
  have HO4 := Lib.hid (HO3.out.chg hc4 (.inr (by omega)))
  clear hc4 hs3 hx
  go_wp2_with fail
  refine (pick_any p _ 12 _ hs4 (by omega) (by omega)).mono ?_
  rintro e v5 ⟨y, hy, rfl, hs5, hc5⟩
  replace b3 := hc5.cell b3 (.inr (by omega))
  replace c0 := hc5.cell c0 (.inl (by omega))
  replace f0 := hc5.froz f0 (by omega) (.inl (by omega))
  have z5 := hc5.size
  have HT5 := Lib.hid (hc5.below HT4.out (by omega) (by omega))
  have HO5 := Lib.hid (HO4.out.chg hc5 (.inr (by omega)))
  have B3 := Lib.hid b3
  have C0 := Lib.hid c0
  have F0 := Lib.hid f0
  clear hc5 hs4 hy
  go_wp2_with fail
  generalize wrap64 ((x : Int) - wrap64 ((y : Int) / 11)) = k
  go_region_held3 (fun w' => w'.cell? ⟨w2.heap.size, 0, none⟩ = some (.slice B xs.length d)) (first | exact b3 | exact set_far b3 (by omega) | go_keep)
    ((go_at_call 29; refine (pick_any p (0 + 100 + 2 + 2) 9 _ ?_ (by omega) (by omega)).mono ?_; (first | exact hs5 | exact hs5.drew); rintro e w6 ⟨z, hz, rfl, hs6, hc6⟩; have hz9 : z < 9 := (by omega); have i9 : (z : Int) < 9 := (by omega); have cy : Chg p (p + 1) v5 w6 := ⟨hc6.os, hc6.tape, hc6.output, hc6.size, hc6.block⟩; replace b3 := cy.cell B3.out (.inr (by omega)); replace c0 := cy.cell C0.out (.inl (by omega)); replace f0 := cy.froz F0.out (by omega) (.inl (by omega))))
  all_goals
    have HT6 := Lib.hid (cy.below HT5.out (by omega) (by omega))
    have HO6 := Lib.hid (HO5.out.chg cy (.inr (by omega)))
    have z6 := cy.size
    go_wp2
    refine bodyPost_ret (v := .tuple #[.agg #[.slice B xs.length d], .int .i64 k, .int .u8 ((coB[z]'(by exact hz9)).toNat : Int)]) (by simp [results, Tryz.results11, go_sem, *]) rfl ⟨B, _, d, xs, k, coB[z]'(by exact hz9), rfl, rfl, hn40, ?_, ?_⟩
    · exact (HO6.out.below _ _ _ (by omega)).mono (by omega) (by simp <;> omega)
    · first | exact bset HT6.out _ _ _ (Nat.le_refl _) | exact (bset HT6.out _ _ _ (Nat.le_refl _)).drew
def DrawRun (w : World) (e : Ending) (w' : World) : Prop := ∃ s : ByteArray, s.size ≤ 21 ∧ e = .returned (.string s) ∧ Below w.heap.size w w'
theorem DrawProgramRuns_any (A : Option Addr) (n c : Nat) (bs0 : List UInt8) (w : World) (ha : Rd w w.heap.size 1 A n (byts bs0)) (hn : n ≤ 1048576) :
    Calls Tryz.prog 14 #[.slice A n c] w (DrawRun w) := by
  go_enter Tryz.func14, Tryz.ntmps14
  go_wp2_with fail
  refine (l00From_any A n c bs0 _ ha hn).mono ?_; rintro e w1 ⟨p, hp, rfl, hs1, hb1⟩
  have z1 := hb1.size
  go_wp2_with fail
  refine (l05Bent_any p 0 _ hs1 (by omega)).mono ?_
  rintro e w2 ⟨s, hs21, rfl, hs2, hc2⟩
  have T2 := hc2.below hb1 (by omega) hb1.size
  clear hc2 hs1 hs2
  go_wp2
  go_ret
  exact ⟨s, hs21, rfl, T2⟩
end Go.Proofs.YtkmejkeanmjfbaaGreatDoor
