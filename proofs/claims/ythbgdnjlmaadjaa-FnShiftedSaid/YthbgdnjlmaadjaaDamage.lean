/- Draws of cards that are near to other ones. -/
import Derived.Test.YthbgdnjlmaadjaaBent
import Derived.Deep.RegionHeld3
namespace Go.Proofs.Ythbgdnjlmaadjaa
open Go.RowKit

/-- Behind some damages. -/
def DmR (p K n b5 : Nat) (w wr : World) (B : Option Addr) (d : Nat) (q : Value) : Prop := ∃ (k : Nat) (ys : List Int), k ≤ 3 ∧ q = .int .i64 k ∧ ys.length = n ∧ Ob wr (w.heap.size + 1) b5 2 1 (.slice B n d) n (ints ys) ∧ wr.cell? ⟨b5, 0, none⟩ = some (.slice B n d) ∧
  wr.cell? ⟨w.heap.size, 0, none⟩ = some (.slice none 0 0) ∧ wr.frozen? ⟨w.heap.size, 0, none⟩ = false ∧ Chg p (p + 1) w wr ∧ SrcK wr p (K + 2 + 8 * (3 - k)) ∧ b5 < wr.heap.size

set_option maxRecDepth 20000 in
set_option maxHeartbeats 8000000 in
theorem l06Damaged_any (p K b o n : Nat) (A : Option Addr) (c : Nat) (xs : List Int) (w : World) (h : SrcK w p K) (hK : K + 100 < 800000) (hc : w.cell? ⟨b, o, none⟩ = some (.slice A xs.length c)) (ha : Rd w w.heap.size 1 A xs.length (ints xs)) (hn : xs.length = n) (hn40 : n ≤ 40) :
    Calls Try.prog 87 #[.pointer (some ⟨p, 0, none⟩), .pointer (some ⟨b, o, none⟩)] w (BentP p K w) := by
  have hlt := h.lt
  obtain ⟨W, hW⟩ : ∃ W, W = w.alloc (.cells #[.slice none 0 0] 26) := ⟨_, rfl⟩
  have T0 : Below w.heap.size w W := by rw [hW]; exact ba (b0 w) _
  have c0 : W.cell? ⟨w.heap.size, 0, none⟩ = some (.slice none 0 0) := by rw [hW]; exact cell_new rfl rfl
  have f0 : W.frozen? ⟨w.heap.size, 0, none⟩ = false := by rw [hW]; exact froz_new rfl
  have z0 : W.heap.size = w.heap.size + 1 := by rw [hW]; simp
  have hs := h.later T0
  have hcW := cell_later T0 hc
  have haW := ha.up T0
  have hch := (Chg.refl p (p + 1) w).then T0 (Nat.le_refl _)
  have HW := Lib.hid hW
  clear hW h hc ha
  go_enter Try.func87, Try.ntmps87
  go_wp2_with fail
  rw [← HW.out]
  refine (l02Own_any b o A c xs _ hcW haW (by omega)).mono ?_
  rintro e w1 ⟨B, d, rfl, ho1, hb1⟩
  rw [hn] at ho1 ⊢
  have HO1 := Lib.hid ((Ob.of ho1).alloc (.cells #[.slice B n d] 26))
  have TB := ba (b0 w1) (.cells #[.slice B n d] 26)
  have hs1 := (hs.later hb1).later TB
  have c1 := cell_later TB (cell_later hb1 c0)
  have f1 := froz_later TB (froz_later hb1 f0 (by omega)) (by have := hb1.size; omega)
  have z1 := hb1.size
  have ch1 := (hch.then hb1 (by omega)).then TB (by omega)
  have b1 : (w1.alloc (.cells #[.slice B n d] 26)).cell? ⟨w1.heap.size, 0, none⟩ = some (.slice B n d) := cell_new rfl rfl
  have z2 : (w1.alloc (.cells #[.slice B n d] 26)).heap.size = w1.heap.size + 1 := by simp
  have HXN := Lib.hid hn
  clear ho1 hb1 TB hs hcW haW hch c0 f0 hn
  by_cases hn0 : n = 0
  · subst hn0
    have i0 : ((0 : Int) == 0) = true := rfl
    go_wp2
    refine bodyPost_ret (v := .agg #[.slice B 0 d]) (by simp [results, Try.results87, go_sem, *]) rfl ⟨B, 0, d, xs, rfl, HXN.out, by omega, ?_, ?_, ?_⟩
    · exact (HO1.out.below _ _ _ (by omega)).mono (by omega) (by simp)
    · exact (hs1.set _ _ hlt).more (by omega)
    · exact ch1.then (bset (Below.refl w.heap.size _) w.heap.size 0 (.slice B 0 d) (Nat.le_refl _)) (by omega)
  · have i0 : ((n : Int) == 0) = false := beq_f (by omega)
    have hO := HO1.out
    rw [z0] at hO
    go_wp2_with fail
    refine (pick_any p K 4 _ hs1 (by omega) (by omega)).mono ?_
    rintro e w2 ⟨x, hx, rfl, hs2, hc2⟩
    have hx4 : x ≤ 3 := by omega
    have HO2 := Lib.hid (hO.chg hc2 (.inr (by omega)))
    have c2 := hc2.cell c1 (.inr (by omega))
    have f2 := hc2.froz f1 (by omega) (.inr (by omega))
    have b2 := hc2.cell b1 (.inr (by omega))
    have z3 := hc2.size
    have HC2 := Lib.hid (ch1.trans hc2)
    have HS2 := Lib.hid (hs2.more (show K + 2 ≤ K + 2 + 8 * (3 - x) by omega))
    clear hx hc2 hs1 hs2 c1 f1 b1 ch1 hO
    go_wp2
    go_loopw [6, 7, 8] (fun q _ _ wr => DmR p K n w1.heap.size w wr B d q) (fun q _ _ _ => (intOf q).toNat)
    case atStart => exact ⟨x, xs, hx4, rfl, HXN.out, HO2.out, b2, c2, f2, HC2.out, HS2.out, by omega⟩
    case round =>
      obtain ⟨wo, rfl⟩ : ∃ wo : World, wo = wr := ⟨_, rfl⟩
      obtain ⟨k, ys, hk, rfl, hyl, hob, b3, c3, f3, hch, hs, hz⟩ := hrel
      have HYL := Lib.hid hyl
      clear hyl b2 c2 f2
      by_cases hk0 : 0 < k
      · have i1 : (0 : Int) < (k : Int) := by omega
        obtain ⟨g, hB, hg1, hg2⟩ := own_at hob.1 (k := 0) (by omega)
        subst hB
        have hg3 : g < w1.heap.size := hob.2 g rfl
        go_wp2_with fail
        refine (pick_any p _ (n : Int) _ hs (by omega) (by omega)).mono ?_
        rintro e w3 ⟨y, hy, rfl, hs3, hc3⟩
        have hyn : y < n := by omega
        have i2 : (y : Int) < (n : Int) := by omega
        have ob3 := hob.chg hc3 (.inr (by omega))
        have b4 := hc3.cell b3 (.inr (by omega))
        have c4 := hc3.cell c3 (.inr (by omega))
        have f4 := hc3.froz f3 (by omega) (.inr (by omega))
        have z4 := hc3.size
        have ch3 := hch.trans hc3
        have d1 := own_cell ob3.1 y (by rw [ints_length, HYL.out]; exact hyn)
        have hyy : y < ys.length := by rw [HYL.out]; exact hyn
        rw [show (ints ys)[y]'(by rw [ints_length]; exact hyy) = .int .i64 ys[y] by simp [ints]] at d1
        have OB3 := Lib.hid ob3
        have B4 := Lib.hid b4
        have D1 := Lib.hid d1
        clear hy hc3 hob b3 c3 f3 hch hs ob3
        go_wp2_with fail
        go_region_held3 (fun w' => w'.cell? ⟨w1.heap.size, 0, none⟩ = some (.slice (some ⟨g, 0, none⟩) n d)) (first | exact b4 | exact set_far b4 (by omega) | go_keep)
          ((go_at_call 97; refine (pick_any p (K + 2 + 8 * (3 - k) + 2) 12 _ ?_ (by omega) (by omega)).mono ?_; (first | exact hs3 | exact hs3.drew); rintro e w4 ⟨u, hu, rfl, hs4, hc4⟩; have hu12 : u < 12 := (by omega); have cx : Chg p (p + 1) w3 w4 := ⟨hc4.os, hc4.tape, hc4.output, hc4.size, hc4.block⟩; replace b4 := cx.cell B4.out (.inr (by omega)); replace d1 := cx.cell D1.out (.inr (by omega)); have ob4 := OB3.out.chg cx (.inr (by omega)); have e1 := ob4.1.frozenAt y))
        have hpg : p < g := by omega
        have c5 := cx.cell c4 (.inr (by omega))
        have f5 := cx.froz f4 (by omega) (.inr (by omega))
        have z5 := cx.size
        have hgz := ob4.1.lt g rfl
        have HO := Lib.hid (ownsRow_set ob4.1 y)
        have HC5 := Lib.hid (ch3.trans cx)
        have HS4 := Lib.hid hs4
        have HG := Lib.hid ob4.2
        have C5 := Lib.hid c5
        have F5 := Lib.hid f5
        have B5 := Lib.hid b4
        clear hu hc4 hs3 hs4 cx ob4 d1 e1 c4 f4 b4 c5 f5 ch3
        go_wp2
        go_roundw
        case rel =>
          have Q : ∀ z : Int, DmR p K n w1.heap.size w (w4.setCell ⟨g, y, none⟩ (.int .i64 z)) (some ⟨g, 0, none⟩) d (.int .i64 ((k : Int) - 1)) := fun z => ⟨k - 1, ys.set y z, by omega, by rw [show (k : Int) - 1 = ((k - 1 : Nat) : Int) by omega], by rw [List.length_set, HYL.out], ⟨by rw [← ints_set']; exact HO.out _, HG.out⟩, set_far B5.out (by omega), set_far C5.out (by omega), set_far_f F5.out (by omega), HC5.out.then (bset (Below.refl (w.heap.size + 1) w4) g y (.int .i64 z) (by omega)) (by omega), (HS4.out.set _ _ hpg).more (by omega), by rw [World.size_setCell]; omega⟩
          first | exact Q _ | exact ⟨_, Q _, rfl⟩ | exact ⟨_, _, Q _, rfl, rfl⟩ | exact ⟨_, _, _, Q _, rfl, rfl, rfl⟩
        case measure => (simp [intOf]; try omega)
      · obtain rfl : k = 0 := by omega
        go_wp2
        refine bodyPost_ret (v := .agg #[.slice B n d]) (by simp [results, Try.results87, go_sem, *]) rfl ⟨B, n, d, ys, rfl, HYL.out, hn40, ?_, ?_, ?_⟩
        · exact (hob.below _ _ _ (by omega)).mono (by omega) (by simp; omega)
        · exact (hs.set _ _ hlt).more (by omega)
        · exact hch.then (bset (Below.refl w.heap.size _) w.heap.size 0 (.slice B n d) (Nat.le_refl _)) (by omega)
end Go.Proofs.Ythbgdnjlmaadjaa
