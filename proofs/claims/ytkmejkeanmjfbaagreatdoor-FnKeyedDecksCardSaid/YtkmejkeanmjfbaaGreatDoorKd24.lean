/- Draws of cards: any, bent, damaged. -/
import Derived.Test.YtkmejkeanmjfbaaGreatDoorKd16
import Derived.OneCell
import Derived.Deep.RegionHeld3
/-! ### Bent -/
namespace Go.Proofs.YtkmejkeanmjfbaaGreatDoor
open Go.RowKit

theorem Chg.froz {lo hi : Nat} {w w' : World} (c : Chg lo hi w w') {b o : Nat} (h : w.frozen? ⟨b, o, none⟩ = false) (hl : b < w.heap.size) (hb : b < lo ∨ hi ≤ b) : w'.frozen? ⟨b, o, none⟩ = false :=
  (World.frozen?_of_block (c.block b hl hb)).trans h
theorem ints_set' (xs : List Int) (k : Nat) (z : Int) : (ints xs).set k (.int .i64 z) = ints (xs.set k z) := by unfold ints; rw [List.map_set]
theorem own_snoc {w : World} {base : Nat} {e : TypeId} {size n : Nat} {v : Value} {xs : List Int} {z : Int} (h : w.ownsRow base e size v n (ints xs ++ #[Value.int .i64 z].toList)) : w.ownsRow base e size v n (ints (xs ++ [z])) := by
  rw [ints_snoc]
  exact h
/-- Behind k columns. -/
def DrR (p K wd : Nat) (w wr : World) (q : Value) : Prop := ∃ (k : Nat) (G : Option Addr) (cg : Nat) (xs : List Int), k ≤ wd ∧ q = .int .i64 k ∧ xs.length = k ∧ wr.ownsRow (w.heap.size + 2) 2 1 (.slice G k cg) k (ints xs) ∧ Chg p (p + 1) w wr ∧
  wr.cell? ⟨w.heap.size + 1, 0, none⟩ = some (.slice G k cg) ∧ wr.frozen? ⟨w.heap.size + 1, 0, none⟩ = false ∧ wr.cell? ⟨w.heap.size, 0, none⟩ = some (.slice none 0 0) ∧ wr.frozen? ⟨w.heap.size, 0, none⟩ = false ∧ w.heap.size + 2 ≤ wr.heap.size ∧ SrcK wr p (K + 10 * k)

set_option maxRecDepth 100000 in
set_option maxHeartbeats 8000000 in
theorem l02Draw_any (p K wd : Nat) (w : World) (h : SrcK w p K) (hK : K + 10 * wd < 900000) :
    Calls Tryz.prog 79 #[.pointer (some ⟨p, 0, none⟩), .int .i64 (wd : Int)] w fun e w' => ∃ B d xs, e = .returned (.agg #[.slice B wd d]) ∧ List.length xs = wd ∧ Ob w' w.heap.size w'.heap.size 2 1 (.slice B wd d) wd (ints xs) ∧ SrcK w' p (K + 10 * wd) ∧ Chg p (p + 1) w w' := by
  obtain ⟨i0, hi, hz0, hz1, hz2⟩ := info_parts info_i64
  have hlt := h.lt
  obtain ⟨W, hW⟩ : ∃ W, W = (w.alloc (.cells #[.slice none 0 0] 26)).alloc (.cells #[.slice none 0 0] 26) := ⟨_, rfl⟩
  have T0 : Below w.heap.size w W := by rw [hW]; exact ba (ba (b0 w) _) _
  have k1 : W.cell? ⟨w.heap.size, 0, none⟩ = some (.slice none 0 0) := by rw [hW]; exact cell_alloc (cell_new rfl rfl) _
  have g1 : W.frozen? ⟨w.heap.size, 0, none⟩ = false := by rw [hW]; exact froz_alloc (froz_new rfl) (by simp) _
  have k2 : W.cell? ⟨w.heap.size + 1, 0, none⟩ = some (.slice none 0 0) := by rw [hW]; exact cell_new (by simp) rfl
  have g2 : W.frozen? ⟨w.heap.size + 1, 0, none⟩ = false := by rw [hW]; exact froz_new (by simp)
  have z0 : W.heap.size = w.heap.size + 2 := by rw [hW]; simp
  have HW := Lib.hid hW
  clear hW
  go_enter Tryz.func79, Tryz.ntmps79
  go_wp2
  go_loopw [6, 7] (fun q _ wr => DrR p K wd w wr q) (fun q _ _ => wd - (intOf q).toNat)
  case atStart =>
    rw [← HW.out]
    exact ⟨0, none, 0, [], Nat.zero_le _, rfl, rfl, World.ownsRow_nil _ _ _ _, (Chg.refl _ _ _).then T0 (Nat.le_refl _), k2, g2, k1, g1, by omega, h.later T0⟩
  case round =>
    obtain ⟨wo, rfl⟩ : ∃ wo : World, wo = wr := ⟨_, rfl⟩
    obtain ⟨k, G, cg, xs, hk, rfl, hxl, hown, hch, c1, f1, c0, f0, hz, hs⟩ := hrel
    have HXL := Lib.hid hxl
    clear hxl h
    by_cases hkw : k < wd
    · have i1 : (k : Int) < (wd : Int) := by omega
      go_wp2_with fail
      refine (pick_any p (K + 10 * k) 10 _ hs (by omega) (by omega)).mono ?_
      rintro e w1 ⟨x, hx, rfl, hsx, hc⟩
      have hx' : x < 10 := by omega
      have hs := hsx
      have hown := own_chg hown hc (by omega)
      have hch := hch.trans hc
      have c1 := hc.cell c1 (.inr (by omega))
      have f1 := hc.froz f1 (by omega) (.inr (by omega))
      have c0 := hc.cell c0 (.inr (by omega))
      have f0 := hc.froz f0 (by omega) (.inr (by omega))
      have hz := Nat.le_trans hz hc.size
      clear hc hsx hx
      go_wp2_with fail
      refine (pick_any p (K + 10 * k + 2) 6 _ hs (by omega) (by omega)).mono ?_
      rintro e w2 ⟨y, hy, rfl, hsy, hc⟩
      have hy' : y < 6 := by omega
      have hs := hsy
      have hown := own_chg hown hc (by omega)
      have hch := hch.trans hc
      have c1 := hc.cell c1 (.inr (by omega))
      have f1 := hc.froz f1 (by omega) (.inr (by omega))
      have c0 := hc.cell c0 (.inr (by omega))
      have f0 := hc.froz f0 (by omega) (.inr (by omega))
      have hz := Nat.le_trans hz hc.size
      clear hc hsy hy
      by_cases y0 : y = 0
      · subst y0
        have hbase : w.heap.size + 2 ≤ w2.heap.size := hz
        go_wp2_with (at_builtin; refine wpList_ap rfl (.tmp 39) (.tmp 41) 24 rfl (w.heap.size + 2) 2 i0 _ 1 8 Tryz.underlying24 hi hz0 hz1 hz2 rfl (by omega) G k cg (ints xs) rfl w2 hown 1 #[.int .i64 _] w2.heap.size rfl rfl rfl (by intro v hv; simp at hv; subst hv; rfl) (by omega) (by omega) (by omega) hbase ?_; intro g cap w6 hown6 hb6 hg6 _ hg7; have c1 := (hb6.cell (p := ⟨w.heap.size + 1, 0, none⟩) (by simp)).trans c1; have f1 := (hb6.frozen (p := ⟨w.heap.size + 1, 0, none⟩) (by simp)).trans f1; have c0 := (hb6.cell (p := ⟨w.heap.size, 0, none⟩) (by simp)).trans c0; have f0 := (hb6.frozen (p := ⟨w.heap.size, 0, none⟩) (by simp)).trans f0)
        have HO := Lib.hid (own_below (own_snoc hown6) (w.heap.size + 1) 0 (.slice (some ⟨g, 0, none⟩) (k + 1) cap) (by omega))
        have HS := Lib.hid (((hs.below hb6 (show p < w.heap.size + 2 by omega)).below (bset (Below.refl (w.heap.size + 1) w6) (w.heap.size + 1) 0 (.slice (some ⟨g, 0, none⟩) (k + 1) cap) (Nat.le_refl _)) (by omega)).more (show _ ≤ K + 10 * (k + 1) by omega))
        have HCH := Lib.hid ((hch.then hb6 (by omega)).then (bset (Below.refl (w.heap.size + 1) w6) (w.heap.size + 1) 0 (.slice (some ⟨g, 0, none⟩) (k + 1) cap) (Nat.le_refl _)) (by omega))
        have H1 := Lib.hid (show (w6.setCell ⟨w.heap.size + 1, 0, none⟩ (.slice (some ⟨g, 0, none⟩) (k + 1) cap)).cell? ⟨w.heap.size + 1, 0, none⟩ = some (.slice (some ⟨g, 0, none⟩) (k + 1) cap) from World.cell?_setCell_same _ _ _ c1)
        have F1 := Lib.hid (show (w6.setCell ⟨w.heap.size + 1, 0, none⟩ (.slice (some ⟨g, 0, none⟩) (k + 1) cap)).frozen? ⟨w.heap.size + 1, 0, none⟩ = false by simp [f1])
        have H0 := Lib.hid (set_far (g := w.heap.size + 1) (k := 0) (u := .slice (some ⟨g, 0, none⟩) (k + 1) cap) c0 (by omega))
        have F0 := Lib.hid (set_far_f (g := w.heap.size + 1) (k := 0) (u := .slice (some ⟨g, 0, none⟩) (k + 1) cap) f0 (by omega))
        have HZ := Lib.hid (show w.heap.size + 2 ≤ (w6.setCell ⟨w.heap.size + 1, 0, none⟩ (.slice (some ⟨g, 0, none⟩) (k + 1) cap)).heap.size by rw [World.size_setCell]; have hzz : w.heap.size + 1 < w6.heap.size := World.block_lt_of_cell? _ _ c1; omega)
        clear hown6 hb6 hg6 c1 f1 c0 f0 hown hs hch hbase
        go_roundw
        case rel =>
          have P : DrR p K wd w (w6.setCell ⟨w.heap.size + 1, 0, none⟩ (.slice (some ⟨g, 0, none⟩) (k + 1) cap)) (.int .i64 ((k : Int) + 1)) := ⟨k + 1, some ⟨g, 0, none⟩, cap, _, by omega, by go_num, by rw [List.length_append, HXL.out]; rfl, HO.out, HCH.out, H1.out, F1.out, H0.out, F0.out, HZ.out, HS.out⟩
          first | exact P | exact ⟨_, P, rfl⟩ | exact ⟨_, _, P, rfl, rfl⟩ | exact ⟨_, _, _, P, rfl, rfl, rfl⟩ | exact ⟨_, _, _, _, P, rfl, rfl, rfl, rfl⟩ | exact ⟨_, _, _, _, _, P, rfl, rfl, rfl, rfl, rfl⟩ | exact ⟨_, _, _, _, _, _, P, rfl, rfl, rfl, rfl, rfl, rfl⟩ | exact ⟨_, _, _, _, _, _, _, P, rfl, rfl, rfl, rfl, rfl, rfl, rfl⟩ | exact ⟨_, _, _, _, _, _, _, _, P, rfl, rfl, rfl, rfl, rfl, rfl, rfl, rfl⟩
        case measure => (simp [intOf]; try omega)
      · have n0 : ((y : Int) == 0) = false := beq_f (by omega)
        by_cases y1 : y = 1
        · have n1 : ((y : Int) == 1) = true := beq_t (by omega)
          clear y1 y0
          go_wp2_with fail
          refine (pick_any p (K + 10 * k + 2 + 2) 3 _ hs (by omega) (by omega)).mono ?_
          rintro e w3 ⟨u, hu, rfl, hsu, hc⟩
          have hu' : u < 3 := by omega
          have hs := hsu
          have hown := own_chg hown hc (by omega)
          have hch := hch.trans hc
          have c1 := hc.cell c1 (.inr (by omega))
          have f1 := hc.froz f1 (by omega) (.inr (by omega))
          have c0 := hc.cell c0 (.inr (by omega))
          have f0 := hc.froz f0 (by omega) (.inr (by omega))
          have hz := Nat.le_trans hz hc.size
          clear hc hsu hu
          go_wp2_with fail
          refine (pick_any p (K + 10 * k + 2 + 2 + 2) 9 _ hs (by omega) (by omega)).mono ?_
          rintro e w4 ⟨v, hv, rfl, hsv, hc⟩
          have hv' : v < 9 := by omega
          have hs := hsv
          have hown := own_chg hown hc (by omega)
          have hch := hch.trans hc
          have c1 := hc.cell c1 (.inr (by omega))
          have f1 := hc.froz f1 (by omega) (.inr (by omega))
          have c0 := hc.cell c0 (.inr (by omega))
          have f0 := hc.froz f0 (by omega) (.inr (by omega))
          have hz := Nat.le_trans hz hc.size
          clear hc hsv hv
          have hbase : w.heap.size + 2 ≤ w4.heap.size := hz
          go_wp2_with (at_builtin; refine wpList_ap rfl (.tmp 39) (.tmp 41) 24 rfl (w.heap.size + 2) 2 i0 _ 1 8 Tryz.underlying24 hi hz0 hz1 hz2 rfl (by omega) G k cg (ints xs) rfl w4 hown 1 #[.int .i64 _] w4.heap.size rfl rfl rfl (by intro v hv; simp at hv; subst hv; rfl) (by omega) (by omega) (by omega) hbase ?_; intro g cap w6 hown6 hb6 hg6 _ hg7; have c1 := (hb6.cell (p := ⟨w.heap.size + 1, 0, none⟩) (by simp)).trans c1; have f1 := (hb6.frozen (p := ⟨w.heap.size + 1, 0, none⟩) (by simp)).trans f1; have c0 := (hb6.cell (p := ⟨w.heap.size, 0, none⟩) (by simp)).trans c0; have f0 := (hb6.frozen (p := ⟨w.heap.size, 0, none⟩) (by simp)).trans f0)
          have HO := Lib.hid (own_below (own_snoc hown6) (w.heap.size + 1) 0 (.slice (some ⟨g, 0, none⟩) (k + 1) cap) (by omega))
          have HS := Lib.hid (((hs.below hb6 (show p < w.heap.size + 2 by omega)).below (bset (Below.refl (w.heap.size + 1) w6) (w.heap.size + 1) 0 (.slice (some ⟨g, 0, none⟩) (k + 1) cap) (Nat.le_refl _)) (by omega)).more (show _ ≤ K + 10 * (k + 1) by omega))
          have HCH := Lib.hid ((hch.then hb6 (by omega)).then (bset (Below.refl (w.heap.size + 1) w6) (w.heap.size + 1) 0 (.slice (some ⟨g, 0, none⟩) (k + 1) cap) (Nat.le_refl _)) (by omega))
          have H1 := Lib.hid (show (w6.setCell ⟨w.heap.size + 1, 0, none⟩ (.slice (some ⟨g, 0, none⟩) (k + 1) cap)).cell? ⟨w.heap.size + 1, 0, none⟩ = some (.slice (some ⟨g, 0, none⟩) (k + 1) cap) from World.cell?_setCell_same _ _ _ c1)
          have F1 := Lib.hid (show (w6.setCell ⟨w.heap.size + 1, 0, none⟩ (.slice (some ⟨g, 0, none⟩) (k + 1) cap)).frozen? ⟨w.heap.size + 1, 0, none⟩ = false by simp [f1])
          have H0 := Lib.hid (set_far (g := w.heap.size + 1) (k := 0) (u := .slice (some ⟨g, 0, none⟩) (k + 1) cap) c0 (by omega))
          have F0 := Lib.hid (set_far_f (g := w.heap.size + 1) (k := 0) (u := .slice (some ⟨g, 0, none⟩) (k + 1) cap) f0 (by omega))
          have HZ := Lib.hid (show w.heap.size + 2 ≤ (w6.setCell ⟨w.heap.size + 1, 0, none⟩ (.slice (some ⟨g, 0, none⟩) (k + 1) cap)).heap.size by rw [World.size_setCell]; have hzz : w.heap.size + 1 < w6.heap.size := World.block_lt_of_cell? _ _ c1; omega)
          clear hown6 hb6 hg6 c1 f1 c0 f0 hown hs hch hbase
          go_roundw
          case rel =>
            have P : DrR p K wd w (w6.setCell ⟨w.heap.size + 1, 0, none⟩ (.slice (some ⟨g, 0, none⟩) (k + 1) cap)) (.int .i64 ((k : Int) + 1)) := ⟨k + 1, some ⟨g, 0, none⟩, cap, _, by omega, by go_num, by rw [List.length_append, HXL.out]; rfl, HO.out, HCH.out, H1.out, F1.out, H0.out, F0.out, HZ.out, HS.out⟩
            first | exact P | exact ⟨_, P, rfl⟩ | exact ⟨_, _, P, rfl, rfl⟩ | exact ⟨_, _, _, P, rfl, rfl, rfl⟩ | exact ⟨_, _, _, _, P, rfl, rfl, rfl, rfl⟩ | exact ⟨_, _, _, _, _, P, rfl, rfl, rfl, rfl, rfl⟩ | exact ⟨_, _, _, _, _, _, P, rfl, rfl, rfl, rfl, rfl, rfl⟩ | exact ⟨_, _, _, _, _, _, _, P, rfl, rfl, rfl, rfl, rfl, rfl, rfl⟩ | exact ⟨_, _, _, _, _, _, _, _, P, rfl, rfl, rfl, rfl, rfl, rfl, rfl, rfl⟩
          case measure => (simp [intOf]; try omega)
        · have n1 : ((y : Int) == 1) = false := beq_f (by omega)
          by_cases y2 : y = 2
          · have n2 : ((y : Int) == 2) = true := beq_t (by omega)
            clear y2 y1 y0
            go_wp2_with fail
            refine (pick_any p (K + 10 * k + 2 + 2) 4096 _ hs (by omega) (by omega)).mono ?_
            rintro e w3 ⟨u, hu, rfl, hsu, hc⟩
            have hu' : u < 4096 := by omega
            have hs := hsu
            have hown := own_chg hown hc (by omega)
            have hch := hch.trans hc
            have c1 := hc.cell c1 (.inr (by omega))
            have f1 := hc.froz f1 (by omega) (.inr (by omega))
            have c0 := hc.cell c0 (.inr (by omega))
            have f0 := hc.froz f0 (by omega) (.inr (by omega))
            have hz := Nat.le_trans hz hc.size
            clear hc hsu hu
            have hbase : w.heap.size + 2 ≤ w3.heap.size := hz
            go_wp2_with (at_builtin; refine wpList_ap rfl (.tmp 39) (.tmp 41) 24 rfl (w.heap.size + 2) 2 i0 _ 1 8 Tryz.underlying24 hi hz0 hz1 hz2 rfl (by omega) G k cg (ints xs) rfl w3 hown 1 #[.int .i64 _] w3.heap.size rfl rfl rfl (by intro v hv; simp at hv; subst hv; rfl) (by omega) (by omega) (by omega) hbase ?_; intro g cap w6 hown6 hb6 hg6 _ hg7; have c1 := (hb6.cell (p := ⟨w.heap.size + 1, 0, none⟩) (by simp)).trans c1; have f1 := (hb6.frozen (p := ⟨w.heap.size + 1, 0, none⟩) (by simp)).trans f1; have c0 := (hb6.cell (p := ⟨w.heap.size, 0, none⟩) (by simp)).trans c0; have f0 := (hb6.frozen (p := ⟨w.heap.size, 0, none⟩) (by simp)).trans f0)
            have HO := Lib.hid (own_below (own_snoc hown6) (w.heap.size + 1) 0 (.slice (some ⟨g, 0, none⟩) (k + 1) cap) (by omega))
            have HS := Lib.hid (((hs.below hb6 (show p < w.heap.size + 2 by omega)).below (bset (Below.refl (w.heap.size + 1) w6) (w.heap.size + 1) 0 (.slice (some ⟨g, 0, none⟩) (k + 1) cap) (Nat.le_refl _)) (by omega)).more (show _ ≤ K + 10 * (k + 1) by omega))
            have HCH := Lib.hid ((hch.then hb6 (by omega)).then (bset (Below.refl (w.heap.size + 1) w6) (w.heap.size + 1) 0 (.slice (some ⟨g, 0, none⟩) (k + 1) cap) (Nat.le_refl _)) (by omega))
            have H1 := Lib.hid (show (w6.setCell ⟨w.heap.size + 1, 0, none⟩ (.slice (some ⟨g, 0, none⟩) (k + 1) cap)).cell? ⟨w.heap.size + 1, 0, none⟩ = some (.slice (some ⟨g, 0, none⟩) (k + 1) cap) from World.cell?_setCell_same _ _ _ c1)
            have F1 := Lib.hid (show (w6.setCell ⟨w.heap.size + 1, 0, none⟩ (.slice (some ⟨g, 0, none⟩) (k + 1) cap)).frozen? ⟨w.heap.size + 1, 0, none⟩ = false by simp [f1])
            have H0 := Lib.hid (set_far (g := w.heap.size + 1) (k := 0) (u := .slice (some ⟨g, 0, none⟩) (k + 1) cap) c0 (by omega))
            have F0 := Lib.hid (set_far_f (g := w.heap.size + 1) (k := 0) (u := .slice (some ⟨g, 0, none⟩) (k + 1) cap) f0 (by omega))
            have HZ := Lib.hid (show w.heap.size + 2 ≤ (w6.setCell ⟨w.heap.size + 1, 0, none⟩ (.slice (some ⟨g, 0, none⟩) (k + 1) cap)).heap.size by rw [World.size_setCell]; have hzz : w.heap.size + 1 < w6.heap.size := World.block_lt_of_cell? _ _ c1; omega)
            clear hown6 hb6 hg6 c1 f1 c0 f0 hown hs hch hbase
            go_roundw
            case rel =>
              have P : DrR p K wd w (w6.setCell ⟨w.heap.size + 1, 0, none⟩ (.slice (some ⟨g, 0, none⟩) (k + 1) cap)) (.int .i64 ((k : Int) + 1)) := ⟨k + 1, some ⟨g, 0, none⟩, cap, _, by omega, by go_num, by rw [List.length_append, HXL.out]; rfl, HO.out, HCH.out, H1.out, F1.out, H0.out, F0.out, HZ.out, HS.out⟩
              first | exact P | exact ⟨_, P, rfl⟩ | exact ⟨_, _, P, rfl, rfl⟩ | exact ⟨_, _, _, P, rfl, rfl, rfl⟩ | exact ⟨_, _, _, _, P, rfl, rfl, rfl, rfl⟩ | exact ⟨_, _, _, _, _, P, rfl, rfl, rfl, rfl, rfl⟩ | exact ⟨_, _, _, _, _, _, P, rfl, rfl, rfl, rfl, rfl, rfl⟩ | exact ⟨_, _, _, _, _, _, _, P, rfl, rfl, rfl, rfl, rfl, rfl, rfl⟩ | exact ⟨_, _, _, _, _, _, _, _, P, rfl, rfl, rfl, rfl, rfl, rfl, rfl, rfl⟩
            case measure => (simp [intOf]; try omega)
          · have n2 : ((y : Int) == 2) = false := beq_f (by omega)
            clear y2 y1 y0
            have hbase : w.heap.size + 2 ≤ w2.heap.size := hz
            go_wp2_with (at_builtin; refine wpList_ap rfl (.tmp 39) (.tmp 41) 24 rfl (w.heap.size + 2) 2 i0 _ 1 8 Tryz.underlying24 hi hz0 hz1 hz2 rfl (by omega) G k cg (ints xs) rfl w2 hown 1 #[.int .i64 _] w2.heap.size rfl rfl rfl (by intro v hv; simp at hv; subst hv; rfl) (by omega) (by omega) (by omega) hbase ?_; intro g cap w6 hown6 hb6 hg6 _ hg7; have c1 := (hb6.cell (p := ⟨w.heap.size + 1, 0, none⟩) (by simp)).trans c1; have f1 := (hb6.frozen (p := ⟨w.heap.size + 1, 0, none⟩) (by simp)).trans f1; have c0 := (hb6.cell (p := ⟨w.heap.size, 0, none⟩) (by simp)).trans c0; have f0 := (hb6.frozen (p := ⟨w.heap.size, 0, none⟩) (by simp)).trans f0)
            have HO := Lib.hid (own_below (own_snoc hown6) (w.heap.size + 1) 0 (.slice (some ⟨g, 0, none⟩) (k + 1) cap) (by omega))
            have HS := Lib.hid (((hs.below hb6 (show p < w.heap.size + 2 by omega)).below (bset (Below.refl (w.heap.size + 1) w6) (w.heap.size + 1) 0 (.slice (some ⟨g, 0, none⟩) (k + 1) cap) (Nat.le_refl _)) (by omega)).more (show _ ≤ K + 10 * (k + 1) by omega))
            have HCH := Lib.hid ((hch.then hb6 (by omega)).then (bset (Below.refl (w.heap.size + 1) w6) (w.heap.size + 1) 0 (.slice (some ⟨g, 0, none⟩) (k + 1) cap) (Nat.le_refl _)) (by omega))
            have H1 := Lib.hid (show (w6.setCell ⟨w.heap.size + 1, 0, none⟩ (.slice (some ⟨g, 0, none⟩) (k + 1) cap)).cell? ⟨w.heap.size + 1, 0, none⟩ = some (.slice (some ⟨g, 0, none⟩) (k + 1) cap) from World.cell?_setCell_same _ _ _ c1)
            have F1 := Lib.hid (show (w6.setCell ⟨w.heap.size + 1, 0, none⟩ (.slice (some ⟨g, 0, none⟩) (k + 1) cap)).frozen? ⟨w.heap.size + 1, 0, none⟩ = false by simp [f1])
            have H0 := Lib.hid (set_far (g := w.heap.size + 1) (k := 0) (u := .slice (some ⟨g, 0, none⟩) (k + 1) cap) c0 (by omega))
            have F0 := Lib.hid (set_far_f (g := w.heap.size + 1) (k := 0) (u := .slice (some ⟨g, 0, none⟩) (k + 1) cap) f0 (by omega))
            have HZ := Lib.hid (show w.heap.size + 2 ≤ (w6.setCell ⟨w.heap.size + 1, 0, none⟩ (.slice (some ⟨g, 0, none⟩) (k + 1) cap)).heap.size by rw [World.size_setCell]; have hzz : w.heap.size + 1 < w6.heap.size := World.block_lt_of_cell? _ _ c1; omega)
            clear hown6 hb6 hg6 c1 f1 c0 f0 hown hs hch hbase
            go_roundw
            case rel =>
              have P : DrR p K wd w (w6.setCell ⟨w.heap.size + 1, 0, none⟩ (.slice (some ⟨g, 0, none⟩) (k + 1) cap)) (.int .i64 ((k : Int) + 1)) := ⟨k + 1, some ⟨g, 0, none⟩, cap, _, by omega, by go_num, by rw [List.length_append, HXL.out]; rfl, HO.out, HCH.out, H1.out, F1.out, H0.out, F0.out, HZ.out, HS.out⟩
              first | exact P | exact ⟨_, P, rfl⟩ | exact ⟨_, _, P, rfl, rfl⟩ | exact ⟨_, _, _, P, rfl, rfl, rfl⟩ | exact ⟨_, _, _, _, P, rfl, rfl, rfl, rfl⟩ | exact ⟨_, _, _, _, _, P, rfl, rfl, rfl, rfl, rfl⟩ | exact ⟨_, _, _, _, _, _, P, rfl, rfl, rfl, rfl, rfl, rfl⟩ | exact ⟨_, _, _, _, _, _, _, P, rfl, rfl, rfl, rfl, rfl, rfl, rfl⟩ | exact ⟨_, _, _, _, _, _, _, _, P, rfl, rfl, rfl, rfl, rfl, rfl, rfl, rfl⟩
            case measure => (simp [intOf]; try omega)
    · obtain rfl : k = wd := by omega
      go_wp2
      refine bodyPost_ret (v := .agg #[.slice G k cg]) (by simp [results, Tryz.results79, go_sem, *]) rfl ⟨G, cg, xs, rfl, HXL.out, ?_, ?_, ?_⟩
      · exact ((Ob.of hown).below _ _ _ (by omega)).mono (by omega) (by simp)
      · exact hs.below (bset (Below.refl w.heap.size wo) w.heap.size 0 (.slice G k cg) (Nat.le_refl _)) (by omega)
      · exact hch.then (bset (Below.refl w.heap.size wo) w.heap.size 0 (.slice G k cg) (Nat.le_refl _)) (by omega)

set_option maxHeartbeats 2000000 in
theorem l03Draw_any (p K wd : Nat) (w : World) (h : SrcK w p K) (hK : K + 2 + 10 * wd < 900000) :
    Calls Tryz.prog 69 #[.pointer (some ⟨p, 0, none⟩), .int .i64 (wd : Int)] w fun e w' => ∃ B d xs, e = .returned (.agg #[.slice B wd d]) ∧ List.length xs = wd ∧ Ob w' w.heap.size w'.heap.size 2 1 (.slice B wd d) wd (ints xs) ∧ SrcK w' p (K + 2 + 10 * wd) ∧ Chg p (p + 1) w w' := by
  have hlt := h.lt
  obtain ⟨W, hW⟩ : ∃ W, W = w.alloc (.cells #[.slice none 0 0] 26) := ⟨_, rfl⟩
  have T0 : Below w.heap.size w W := by rw [hW]; exact ba (b0 w) _
  have c0 : W.cell? ⟨w.heap.size, 0, none⟩ = some (.slice none 0 0) := by rw [hW]; exact cell_new rfl rfl
  have f0 : W.frozen? ⟨w.heap.size, 0, none⟩ = false := by rw [hW]; exact froz_new rfl
  have z0 : W.heap.size = w.heap.size + 1 := by rw [hW]; simp
  have hs := h.later T0
  have hch := (Chg.refl p (p + 1) w).then T0 (Nat.le_refl _)
  have HW := Lib.hid hW
  clear hW h
  go_enter Tryz.func69, Tryz.ntmps69
  go_wp2_with fail
  rw [← HW.out]
  refine (one_any p K 8 _ hs (by omega) (by omega)).mono ?_
  rintro e w1 (⟨rfl, hs1, hc1⟩ | ⟨rfl, hs1, hc1⟩)
  · have c1 := hc1.cell c0 (.inr (by omega))
    have f1 := hc1.froz f0 (by omega) (.inr (by omega))
    have z1 := hc1.size
    have ch1 := hch.trans hc1
    clear hc1 hs hch c0 f0
    go_wp2_with fail
    refine (l02Draw_any p (K + 2) wd _ hs1 (by omega)).mono ?_
    rintro e w2 ⟨B, d, xs, rfl, hxl, hob, hs2, hc2⟩
    have c2 := hc2.cell c1 (.inr (by omega))
    have f2 := hc2.froz f1 (by omega) (.inr (by omega))
    have z2 := hc2.size
    have HX := Lib.hid hxl
    clear hxl
    go_wp2
    refine bodyPost_ret (v := .agg #[.slice B wd d]) (by simp [results, Tryz.results69, go_sem, *]) rfl ⟨B, d, xs, rfl, HX.out, ?_, ?_, ?_⟩
    · exact (hob.below _ _ _ (by omega)).mono (by omega) (by simp)
    · exact hs2.below (bset (Below.refl w.heap.size w2) w.heap.size 0 (.slice B wd d) (Nat.le_refl _)) (by omega)
    · exact (ch1.trans hc2).then (bset (Below.refl w.heap.size w2) w.heap.size 0 (.slice B wd d) (Nat.le_refl _)) (by omega)
  · have c1 := hc1.cell c0 (.inr (by omega))
    have f1 := hc1.froz f0 (by omega) (.inr (by omega))
    have z1 := hc1.size
    have ch1 := hch.trans hc1
    clear hc1 hs hch c0 f0
    go_wp2_with fail
    refine (l03DrawText_any p (K + 2) wd _ hs1 (by omega)).mono ?_
    rintro e w2 ⟨tb, htb, hta, rfl, hs2, hc2⟩
    have c2 := hc2.cell c1 (.inr (by omega))
    have f2 := hc2.froz f1 (by omega) (.inr (by omega))
    have z2 := hc2.size
    have ch2 := ch1.trans hc2
    have HTB := Lib.hid htb
    clear hc2 c1 f1 hs1 hta htb
    go_wp2_with fail
    refine (l03Card_any tb _ (by rw [HTB.out]; omega)).mono ?_
    rintro e w3 ⟨B, d, rfl, ho3, hb3⟩
    have HO3 := Lib.hid (Ob.of ho3)
    have c3 := cell_later hb3 c2
    have f3 := froz_later hb3 f2 (by omega)
    have hs3 := hs2.later hb3
    have ch3 := ch2.then hb3 (by omega)
    have z3 := hb3.size
    have HCL := Lib.hid (codL_length tb)
    clear ho3 c2 f2 hs2 hb3
    rw [HTB.out] at HO3 HCL
    rw [HTB.out]
    go_wp2
    refine bodyPost_ret (v := .agg #[.slice B wd d]) (by simp [results, Tryz.results69, go_sem, *]) rfl ⟨B, d, codL tb, rfl, HCL.out, ?_, ?_, ?_⟩
    · exact (HO3.out.below _ _ _ (by omega)).mono (by omega) (by simp)
    · exact (hs3.below (bset (Below.refl w.heap.size w3) w.heap.size 0 (.slice B wd d) (Nat.le_refl _)) (by omega)).more (by omega)
    · exact ch3.then (bset (Below.refl w.heap.size w3) w.heap.size 0 (.slice B wd d) (Nat.le_refl _)) (by omega)

theorem among_any (p K : Nat) (A : Option Addr) (n c : Nat) (xs : List Int) (w : World) (h : SrcK w p K) (hK : K < 900000) (hxl : xs.length = n) (hn : 0 < n) (hn2 : n ≤ 200) (ha : Rd w w.heap.size 1 A n (ints xs)) (hp : ∀ g o, A = some ⟨g, o, none⟩ → g ≠ p) :
    Calls Tryz.prog 103 #[.pointer (some ⟨p, 0, none⟩), .slice A n c] w fun e w' => ∃ z, z ∈ xs ∧ e = .returned (.int .i64 z) ∧ SrcK w' p (K + 2) ∧ Chg p (p + 1) w w' := by
  obtain ⟨g, o, rfl, hg, hcell⟩ := ha.at_ hn
  have hgp := hp g o rfl
  have HXL := Lib.hid hxl
  clear hxl hp
  go_enter Tryz.func103, Tryz.ntmps103
  go_wp2_with fail
  refine (pick_any p K (n : Int) _ h (by omega) (by omega)).mono ?_
  rintro e w1 ⟨x, hx, rfl, hs1, hc1⟩
  have hxn : x < n := by omega
  have i1 : (x : Int) < (n : Int) := by omega
  have d1 := hc1.cell (hcell x _ (ints_get xs x (by rw [HXL.out]; exact hxn))) (by omega)
  clear hcell
  go_wp2
  go_ret
  exact ⟨_, List.getElem_mem _, rfl, hs1, hc1⟩

/-- Of what lies below lo only the blocks p and b may have turned. -/
structure Chs (p b lo : Nat) (w w' : World) : Prop where
  os : w'.os = w.os
  tape : w'.tape = w.tape
  output : w'.output = w.output
  size : w.heap.size ≤ w'.heap.size
  block : ∀ k, k < w.heap.size → k < lo → k ≠ p → k ≠ b → w'.heap[k]? = w.heap[k]?
theorem Chs.of {p b lo : Nat} {w w' : World} (h : Chg p (p + 1) w w') : Chs p b lo w w' := ⟨h.os, h.tape, h.output, h.size, fun k h1 _ h2 _ => h.block k h1 (by omega)⟩
theorem Chs.trans {p b lo : Nat} {w w' w'' : World} (h : Chs p b lo w w') (k : Chs p b lo w' w'') : Chs p b lo w w'' :=
  ⟨k.os.trans h.os, k.tape.trans h.tape, k.output.trans h.output, Nat.le_trans h.size k.size, fun i h1 h2 h3 h4 => (k.block i (Nat.lt_of_lt_of_le h1 h.size) h2 h3 h4).trans (h.block i h1 h2 h3 h4)⟩
theorem Chs.set {p b lo : Nat} {w w' : World} (h : Chs p b lo w w') (g o : Nat) (v : Value) (hg : lo ≤ g ∨ g = b) : Chs p b lo w (w'.setCell ⟨g, o, none⟩ v) :=
  ⟨h.os, h.tape, h.output, by simpa [World.setCell] using h.size, fun k h1 h2 h3 h4 => (Below.heap_setCell w' ⟨g, o, none⟩ v k (by simp only; omega)).trans (h.block k h1 h2 h3 h4)⟩
theorem Chs.below {p b lo : Nat} {w a c : World} (h : Chs p b lo w a) (k : Below a.heap.size a c) : Chs p b lo w c :=
  ⟨k.os.trans h.os, k.tape.trans h.tape, k.output.trans h.output, Nat.le_trans h.size k.size, fun i h1 h2 h3 h4 => (k.block i (Nat.lt_of_lt_of_le h1 h.size)).trans (h.block i h1 h2 h3 h4)⟩
theorem SrcK.set {w : World} {p K g : Nat} (h : SrcK w p K) (o : Nat) (v : Value) (hg : p < g) : SrcK (w.setCell ⟨g, o, none⟩ v) p K := h.below (bset (Below.refl g w) g o v (Nat.le_refl _)) hg
def SpP (p K b lo : Nat) (w : World) (e : Ending) (w' : World) : Prop := ∃ A' n' c' xs', e = .returned (.tuple #[]) ∧ List.length xs' = n' ∧ n' ≤ 40 ∧ w'.cell? ⟨b, 0, none⟩ = some (.slice A' n' c') ∧ w'.frozen? ⟨b, 0, none⟩ = false ∧
  Ob w' lo w'.heap.size 2 1 (.slice A' n' c') n' (ints xs') ∧ SrcK w' p (K + 8) ∧ Chs p b lo w w'

set_option maxRecDepth 20000 in
set_option maxHeartbeats 4000000 in
theorem l02Spoil_any (p K b lo hi : Nat) (A : Option Addr) (n c : Nat) (xs : List Int) (w : World) (h : SrcK w p K) (hK : K < 899990) (hc : w.cell? ⟨b, 0, none⟩ = some (.slice A n c)) (hf : w.frozen? ⟨b, 0, none⟩ = false)
    (hob : Ob w lo hi 2 1 (.slice A n c) n (ints xs)) (hhi : hi ≤ w.heap.size) (hpl : p < lo) (hbp : p < b) (hbr : b < lo ∨ hi ≤ b) (hn : n ≤ 40) (hlo : lo ≤ w.heap.size) :
    Calls Tryz.prog 80 #[.pointer (some ⟨p, 0, none⟩), .pointer (some ⟨b, 0, none⟩)] w (SpP p K b lo w) := by
  obtain ⟨i0, hi0, hz0, hz1, hz2⟩ := info_parts info_i64
  have hblt : b < w.heap.size := World.block_lt_of_cell? _ _ hc
  go_enter Tryz.func80, Tryz.ntmps80
  go_wp2_with fail
  refine (pick_any p K 3 _ h (by omega) (by omega)).mono ?_
  rintro e w1 ⟨x, hx, rfl, hs1, hc1⟩
  have hx3 : x < 3 := by omega
  have c1 := hc1.cell hc (.inr (by omega))
  have f1 := hc1.froz hf hblt (.inr (by omega))
  have ob1 := hob.chg hc1 (.inr (by omega))
  have z1 := hc1.size
  have HC1 := Lib.hid (Chs.of (b := b) (lo := lo) hc1)
  clear hx hob h hc hf hc1
  by_cases x0 : x = 0
  · subst x0
    have c1a := cell_alloc c1 (.cells #[] 2)
    have f1a := froz_alloc f1 (by omega) (.cells #[] 2)
    go_wp2
    go_end0
    refine ⟨some ⟨w1.heap.size, 0, none⟩, 0, 0, [], rfl, rfl, by omega, World.cell?_setCell_same _ _ _ c1a, by simp [f1a], ?_, ?_, ?_⟩
    · exact ⟨ownsRow_setCell_other (own_base (own_lit w1 #[] 0 rfl (Nat.le_refl _) (by omega) rfl) (by omega)) (by simp only [Value.ownBlock]; intro e; injection e with e; omega) _, fun k hk => by simp only [Value.ownBlock, Option.some.injEq] at hk; simp; omega⟩
    · exact ((hs1.later (ba (b0 _) _)).set _ _ hbp).more (by omega)
    · exact (HC1.out.below (ba (b0 _) _)).set _ _ _ (.inr rfl)
  · have n0 : ((x : Int) == 0) = false := beq_f (by omega)
    by_cases x1 : x = 1
    · have n1 : ((x : Int) == 1) = true := beq_t (by omega)
      clear x0 x1
      go_wp2_with fail
      refine (pick_any p (K + 2) 2 _ hs1 (by omega) (by omega)).mono ?_
      rintro e w2 ⟨y, hy, rfl, hs2, hc2⟩
      have hy2 : y < 2 := by omega
      have hb2 : b < w2.heap.size := by have := hc2.size; omega
      have c2 := hc2.cell c1 (.inr (by omega))
      have f2 := hc2.froz f1 (by omega) (.inr (by omega))
      have z2 := hc2.size
      have HC2 := Lib.hid (HC1.out.trans (Chs.of hc2))
      clear hy hc2 hs1 c1 f1 ob1
      go_wp2_with (at_make; refine wpList_make_full _ rfl _ _ 24 rfl w2.heap.size 2 i0 (.int .i64 0) 1 Tryz.underlying24 hi0 hz0 hz1 _ _ _ _ (20 + y) rfl rfl (by omega) (by omega) (by rw [hz2]; omega) (by unfold maxLen; omega) (Nat.le_refl _) ?_; intro w3 hown3 hgrow3; have c3 := (World.cell?_of_block (hgrow3.block b hb2 (by simp))).trans c2; have f3 := (World.frozen?_of_block (hgrow3.block b hb2 (by simp))).trans f2)
      rw [zeros_ints] at hown3
      have z3 := hgrow3.size
      have B3 : Below w2.heap.size w2 w3 := (Below.refl _ _).grown hgrow3 (Nat.le_refl _) (by simp)
      go_end0
      refine ⟨some ⟨w2.heap.size, 0, none⟩, 20 + y, 20 + y, List.replicate (20 + y) 0, rfl, by simp, by omega, World.cell?_setCell_same _ _ _ c3, by simp [f3], ?_, ?_, ?_⟩
      · have hw3 := own_heap hown3
        exact ⟨ownsRow_setCell_other (own_base hown3 (by omega)) (by simp only [Value.ownBlock]; intro e; injection e with e; omega) _, fun k hk => by simp only [Value.ownBlock, Option.some.injEq] at hk; simp; omega⟩
      · exact ((hs2.later B3).set _ _ hbp).more (by omega)
      · exact (HC2.out.below B3).set _ _ _ (.inr rfl)
    · have n1 : ((x : Int) == 1) = false := beq_f (by omega)
      have n2 : ((x : Int) == 2) = true := beq_t (by omega)
      clear x0 x1
      by_cases hn0 : 0 < n
      · have i1 : (0 : Int) < (n : Int) := by omega
        obtain ⟨g, hA, hg1, hg2⟩ := own_at ob1.1 hn0
        subst hA
        have hg3 : g < hi := ob1.2 g rfl
        have hxl : xs.length = n := by have := ob1.1.1; rw [ints_length] at this; omega
        have HXL := Lib.hid hxl
        have hlt1 := hs1.lt
        have hb1 : b < w1.heap.size := by omega
        have OB1 := Lib.hid ob1
        have c10 := Lib.hid c1
        clear hxl ob1
        go_wp2_with fail
        go_region_held3 (fun w' => w'.cell? ⟨b, 0, none⟩ = some (.slice (some ⟨g, 0, none⟩) n c)) (first | exact c1 | exact cell_alloc c1 _ | exact set_far c1 (by omega) | go_keep)
          (first
            | (go_at_call 29; refine (pick_any p (K + 2) (n : Int) _ ?_ (by omega) (by omega)).mono ?_; (first | exact hs1 | exact hs1.drew | exact hs1.later (ba (b0 _) _) | exact (hs1.later (ba (b0 _) _)).drew); rintro e w2 ⟨q, hq, rfl, hs2, hc2⟩; have hqn : q < n := (by omega); have cx : Chg p (p + 1) w1 w2 := (by first | exact (Chg.refl _ _ _).drew.trans hc2 | exact ((Chg.refl _ _ _).then (ba (b0 w1) _) (Nat.le_refl _)).trans hc2 | exact (((Chg.refl _ _ _).then (ba (b0 w1) _) (Nat.le_refl _)).drew).trans hc2 | exact hc2); replace c1 := cx.cell c1 (.inr (by omega)))
            | (go_at_call 103; refine (among_any p (K + 2 + 2) _ 5 5 [-1, 0, 4095, 4096, -9223372036854775808] _ ?_ (by omega) rfl (by omega) (by omega) ?_ ?_).mono ?_; (first | exact hs2 | exact hs2.drew | exact hs2.later (ba (b0 _) _) | exact (hs2.later (ba (b0 _) _)).drew); (first | exact Rd.own (own_lit w2 #[.int .i64 (-1), .int .i64 0, .int .i64 4095, .int .i64 4096, .int .i64 (-9223372036854775808)] 5 rfl (Nat.le_refl _) (by omega) rfl) | exact ((Ob.of (own_lit w1 #[.int .i64 (-1), .int .i64 0, .int .i64 4095, .int .i64 4096, .int .i64 (-9223372036854775808)] 5 rfl (Nat.le_refl _) (by omega) rfl)).chg (⟨hc2.os, hc2.tape, hc2.output, hc2.size, hc2.block⟩ : Chg p (p + 1) (w1.alloc (.cells #[.int .i64 (-1), .int .i64 0, .int .i64 4095, .int .i64 4096, .int .i64 (-9223372036854775808)] 2)) w2) (.inr (by omega))).rd); (intro gg oo hgg; injection hgg with hgg; injection hgg with hgg; have := cx.size; omega); rintro e w3 ⟨z, _, rfl, hs3, hc3⟩; have cy : Chg p (p + 1) w1 w3 := (by first | exact cx.trans hc3 | exact (cx.then (ba (b0 w2) _) cx.size).trans hc3 | exact ((cx.then (ba (b0 w2) _) cx.size).drew).trans hc3); replace c1 := cy.cell c10.out (.inr (by omega)); have ob3 := OB1.out.chg cy (.inr (by omega)); have d1 := own_cell ob3.1 q (by rw [ints_length, HXL.out]; exact hqn); have e1 := ob3.1.frozenAt q))
        all_goals
          have f3 := cy.froz f1 hb1 (.inr (by omega))
          have hpg : p < g := by omega
          have hz3 := ob3.1.lt g rfl
          go_wp2
          go_end0
          refine ⟨some ⟨g, 0, none⟩, n, c, xs.set q z, rfl, by rw [List.length_set, HXL.out], hn, set_far c1 (by omega), set_far_f f3 (by omega), ?_, ?_, ?_⟩
          · refine ⟨by rw [← ints_set']; exact ownsRow_set ob3.1 q _, fun k hk => ?_⟩
            simp only [Value.ownBlock, Option.some.injEq] at hk
            simp
            omega
          · exact (hs3.set _ _ hpg).more (by omega)
          · exact (HC1.out.trans (Chs.of cy)).set _ _ _ (.inl hg1)
      · have i1 : ¬ (0 : Int) < (n : Int) := by omega
        go_wp2
        go_end0
        have hz : n = 0 := by omega
        exact ⟨A, n, c, xs, rfl, by have := ob1.1.1; rw [ints_length] at this; omega, hn, c1, f1, ob1.mono (Nat.le_refl _) (by omega), hs1.more (by omega), HC1.out⟩

theorem Chg.spoil {p b lo : Nat} {w0 w w' : World} (h : Chg p (p + 1) w0 w) (k : Chs p b lo w w') (h1 : w0.heap.size ≤ lo) (h2 : w0.heap.size ≤ b) : Chg p (p + 1) w0 w' :=
  ⟨k.os.trans h.os, k.tape.trans h.tape, k.output.trans h.output, Nat.le_trans h.size k.size, fun i hi ho => (k.block i (Nat.lt_of_lt_of_le hi h.size) (by omega) (by omega) (by omega)).trans (h.block i hi ho)⟩
theorem Chs.cell {p b lo : Nat} {w w' : World} (c : Chs p b lo w w') {g o : Nat} {v : Value} (h : w.cell? ⟨g, o, none⟩ = some v) (h1 : g < lo) (h2 : g ≠ p) (h3 : g ≠ b) : w'.cell? ⟨g, o, none⟩ = some v :=
  (World.cell?_of_block (c.block g (World.block_lt_of_cell? _ _ h) h1 h2 h3)).trans h
theorem Chs.froz {p b lo : Nat} {w w' : World} (c : Chs p b lo w w') {g o : Nat} (h : w.frozen? ⟨g, o, none⟩ = false) (hl : g < w.heap.size) (h1 : g < lo) (h2 : g ≠ p) (h3 : g ≠ b) : w'.frozen? ⟨g, o, none⟩ = false :=
  (World.frozen?_of_block (c.block g hl h1 h2 h3)).trans h

/-- What a draw of a card hands back. -/
def BentP (p K : Nat) (w : World) (e : Ending) (w' : World) : Prop := ∃ B n d xs, e = .returned (.agg #[.slice B n d]) ∧ List.length xs = n ∧ n ≤ 40 ∧ Ob w' w.heap.size w'.heap.size 2 1 (.slice B n d) n (ints xs) ∧ SrcK w' p (K + 100) ∧ Chg p (p + 1) w w'
set_option maxHeartbeats 4000000 in
theorem l03Bent_any (p K : Nat) (w : World) (h : SrcK w p K) (hK : K + 100 < 800000) : Calls Tryz.prog 41 #[.pointer (some ⟨p, 0, none⟩)] w (BentP p K w) := by
  have hlt := h.lt
  obtain ⟨W, hW⟩ : ∃ W, W = w.alloc (.cells #[.slice none 0 0] 26) := ⟨_, rfl⟩
  have T0 : Below w.heap.size w W := by rw [hW]; exact ba (b0 w) _
  have c0 : W.cell? ⟨w.heap.size, 0, none⟩ = some (.slice none 0 0) := by rw [hW]; exact cell_new rfl rfl
  have f0 : W.frozen? ⟨w.heap.size, 0, none⟩ = false := by rw [hW]; exact froz_new rfl
  have z0 : W.heap.size = w.heap.size + 1 := by rw [hW]; simp
  have hs := h.later T0
  have hch := (Chg.refl p (p + 1) w).then T0 (Nat.le_refl _)
  have HW := Lib.hid hW
  clear hW h
  go_enter Tryz.func41, Tryz.ntmps41
  go_wp2_with fail
  rw [← HW.out]
  refine (pick_any p K 6 _ hs (by omega) (by omega)).mono ?_
  rintro e w1 ⟨x, hx, rfl, hs1, hc1⟩
  have hx6 : x < 6 := by omega
  have c1 := hc1.cell c0 (.inr (by omega))
  have f1 := hc1.froz f0 (by omega) (.inr (by omega))
  have z1 := hc1.size
  have ch1 := hch.trans hc1
  have zw : IntKind.i64.wrap (1 + (x : Int)) = ((1 + x : Nat) : Int) := by rw [IntKind.wrap_i64]; omega
  clear hx hc1 hs hch c0 f0
  go_wp2_with fail
  refine (l03Draw_any p (K + 2) (1 + x) _ hs1 (by omega)).mono ?_
  rintro e w2 ⟨B, d, xs, rfl, hxl, hob, hs2, hc2⟩
  obtain ⟨n, hn⟩ : ∃ n, n = 1 + x := ⟨_, rfl⟩
  rw [← hn] at hxl hob hs2 ⊢
  have hn6 : n ≤ 6 := by omega
  have c2 := hc2.cell c1 (.inr (by omega))
  have f2 := hc2.froz f1 (by omega) (.inr (by omega))
  have z2 := hc2.size
  have ch2 := ch1.trans hc2
  have HX := Lib.hid hxl
  have TB := ba (b0 w2) (.cells #[.slice B n d] 26)
  have HS3 := Lib.hid (hs2.later TB)
  have HC3 := Lib.hid (ch2.then TB (by omega))
  have HO3 := Lib.hid (hob.bs TB)
  have b3 : (w2.alloc (.cells #[.slice B n d] 26)).cell? ⟨w2.heap.size, 0, none⟩ = some (.slice B n d) := cell_new rfl rfl
  have g3 : (w2.alloc (.cells #[.slice B n d] 26)).frozen? ⟨w2.heap.size, 0, none⟩ = false := froz_new rfl
  have c3 := cell_later TB c2
  have f3 := froz_later TB f2 (by omega)
  have z3 : (w2.alloc (.cells #[.slice B n d] 26)).heap.size = w2.heap.size + 1 := by simp
  clear hn hxl hob hc2 ch1 ch2 hs1 hs2 c1 f1 c2 f2 TB zw
  go_wp2_with fail
  refine (one_any p _ 12 _ HS3.out (by omega) (by omega)).mono ?_
  rintro e w4 (⟨rfl, hs4, hc4⟩ | ⟨rfl, hs4, hc4⟩)
  · have b4 := hc4.cell b3 (.inr (by omega))
    have g4 := hc4.froz g3 (by omega) (.inr (by omega))
    have c4 := hc4.cell c3 (.inr (by omega))
    have f4 := hc4.froz f3 (by omega) (.inr (by omega))
    have z4 := hc4.size
    have HC4 := Lib.hid (HC3.out.trans hc4)
    have HO4 := Lib.hid (HO3.out.chg hc4 (.inr (by omega)))
    clear b3 g3 c3 f3 hc4
    go_wp2_with fail
    refine (l02Spoil_any p _ w2.heap.size w1.heap.size w2.heap.size B n d xs _ hs4 (by omega) b4 g4 HO4.out (by omega) (by omega) (by omega) (.inr (Nat.le_refl _)) (by omega) (by omega)).mono ?_
    rintro e w5 ⟨B', n', d', xs', rfl, hxl', hn', b5, g5, ho5, hs5, hc5⟩
    have c5 := hc5.cell c4 (by omega) (by omega) (by omega)
    have f5 := hc5.froz f4 (by omega) (by omega) (by omega) (by omega)
    have z5 := hc5.size
    have HC5 := Lib.hid (HC4.out.spoil hc5 (by omega) (by omega))
    have HXL := Lib.hid hxl'
    clear hxl' hc5 c4 f4 b4 g4
    go_wp2
    refine bodyPost_ret (v := .agg #[.slice B' n' d']) (by simp [results, Tryz.results41, go_sem, *]) rfl ⟨B', n', d', xs', rfl, HXL.out, hn', ?_, ?_, ?_⟩
    · exact (ho5.below _ _ _ (by omega)).mono (by omega) (by simp)
    · exact (hs5.set _ _ hlt).more (by omega)
    · exact HC5.out.then (bset (Below.refl w.heap.size w5) w.heap.size 0 (.slice B' n' d') (Nat.le_refl _)) (by omega)
  · have b4 := hc4.cell b3 (.inr (by omega))
    have c4 := hc4.cell c3 (.inr (by omega))
    have f4 := hc4.froz f3 (by omega) (.inr (by omega))
    have z4 := hc4.size
    have HC4 := Lib.hid (HC3.out.trans hc4)
    have HO4 := Lib.hid (HO3.out.chg hc4 (.inr (by omega)))
    clear b3 g3 c3 f3 hc4
    go_wp2
    refine bodyPost_ret (v := .agg #[.slice B n d]) (by simp [results, Tryz.results41, go_sem, *]) rfl ⟨B, n, d, xs, rfl, HX.out, by omega, ?_, ?_, ?_⟩
    · exact (HO4.out.below _ _ _ (by omega)).mono (by omega) (by simp; omega)
    · exact (hs4.set _ _ hlt).more (by omega)
    · exact HC4.out.then (bset (Below.refl w.heap.size w4) w.heap.size 0 (.slice B n d) (Nat.le_refl _)) (by omega)
end Go.Proofs.YtkmejkeanmjfbaaGreatDoor
