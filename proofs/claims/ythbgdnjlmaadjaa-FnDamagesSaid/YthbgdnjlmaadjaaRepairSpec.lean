/- RepairCard in the reference. -/
import Derived.Test.YthbgdnjlmaadjaaRepairCard
import Derived.Deep.RegionLaw
namespace Go.Proofs.Ythbgdnjlmaadjaa
open Go.RowKit

theorem fixL_take (xs : List Int) {k : Nat} (hk : k < xs.length) : fixL (xs.take (k + 1)) = fixL (xs.take k) ++ [fixI xs[k]] := by
  unfold fixL
  rw [List.take_succ_eq_append_getElem hk, List.map_append]
  rfl
theorem fix_dn {xs : List Int} (h : cardOk xs = true) {k : Nat} (hk : k < xs.length) : 0 ≤ (nearTo xs[k] 40).2 ∧ (nearTo xs[k] 40).2 ≤ 12 := by
  have h1 := getD_hole h k
  rw [getD_at hk] at h1
  have h2 := fix_range _ h1.1 h1.2
  rw [fix_far _ h1.1 h1.2]
  have := diffI_range h1.1 h1.2 h2.1 h2.2
  omega
theorem fix_tot {xs : List Int} (h : cardOk xs = true) : ∀ k, k ≤ xs.length → 0 ≤ distTo xs (fixL xs) k ∧ distTo xs (fixL xs) k ≤ 12 * k
  | 0, _ => by simp [distTo]
  | k + 1, hk => by
    have ih := fix_tot h k (by omega)
    have hd := fix_dn h (show k < xs.length by omega)
    rw [fix_sum h (show k < xs.length by omega)]
    omega
/-- Behind k columns. -/
def RsR (xs : List Int) (w1 wr : World) (s q : Value) : Prop := ∃ (k : Nat) (G : Option Addr) (cg : Nat), k ≤ xs.length ∧ q = .int .i64 k ∧ s = .int .i64 (distTo xs (fixL xs) k) ∧ wr.ownsRow (w1.heap.size + 1) 2 1 (.slice G k cg) k (ints (fixL (xs.take k))) ∧ Below w1.heap.size w1 wr ∧
    wr.cell? ⟨w1.heap.size, 0, none⟩ = some (.slice G k cg) ∧ wr.frozen? ⟨w1.heap.size, 0, none⟩ = false ∧ w1.heap.size + 1 ≤ wr.heap.size

set_option maxRecDepth 100000 in
set_option maxHeartbeats 4000000 in
theorem spRepairCard_any (A : Option Addr) (c : Nat) (xs : List Int) (w : World) (ha : Rd w w.heap.size 1 A xs.length (ints xs)) (hl : xs.length ≤ 1048576) (_hc : xs.length ≤ c) :
    Calls Try.prog 17 #[.agg #[.slice A xs.length c]] w fun e w' => ∃ B d, e = .returned (.tuple #[.agg #[.slice B (rcL xs).length d], .int .i64 (rcN xs), .int .i64 (rcC xs)]) ∧
      w'.ownsRow w.heap.size 2 1 (.slice B (rcL xs).length d) (rcL xs).length (ints (rcL xs)) ∧ Below w.heap.size w w' := by
  obtain ⟨i0, hi, hz0, hz1, hz2⟩ := info_parts info_i64
  obtain ⟨W, hW⟩ : ∃ W, W = (w.alloc (.cells #[.slice A xs.length c] 26)).alloc (.cells #[.slice none 0 0] 26) := ⟨_, rfl⟩
  have T0 : Below w.heap.size w W := by rw [hW]; exact ba (ba (b0 w) _) _
  have ra : Rd W W.heap.size 1 A xs.length (ints xs) := by rw [hW]; exact (ha.a1 _).a1 _
  have k1 : W.cell? ⟨w.heap.size, 0, none⟩ = some (.slice A xs.length c) := by rw [hW]; exact cell_alloc (cell_new rfl rfl) _
  have k2 : W.cell? ⟨w.heap.size + 1, 0, none⟩ = some (.slice none 0 0) := by rw [hW]; exact cell_new (by simp) rfl
  have f2 : W.frozen? ⟨w.heap.size + 1, 0, none⟩ = false := by rw [hW]; exact froz_new (by simp)
  have z0 : W.heap.size = w.heap.size + 1 + 1 := by rw [hW]; simp
  have HW := Lib.hid hW
  clear hW ha
  rcases Bool.eq_false_or_eq_true (cardOk xs) with hv | hv
  · have HR := Lib.hid (show rcL xs = fixL xs by unfold rcL; rw [if_pos hv])
    have HN := Lib.hid (show rcN xs = distTo xs (fixL xs) xs.length by unfold rcN; rw [if_pos hv, fix_dist hv])
    have HC := Lib.hid (show rcC xs = 0 by unfold rcC; rw [if_pos hv])
    have HRL := Lib.hid (show (rcL xs).length = xs.length by rw [HR.out, fixL_length])
    have HV := Lib.hid hv
    have h2 := (cardOk_len hv).2
    clear hv
    go_enter Try.func17, Try.ntmps17
    go_wp2_with fail
    rw [← HW.out]
    refine (l02Ok_any _ _ A c xs _ k1 ra hl).mono ?_; rw [HV.out]; rintro e w1 ⟨rfl, hb1⟩
    have q1 := cell_later hb1 k1
    have HQ2 := Lib.hid (cell_later hb1 k2)
    have HG2 := Lib.hid (froz_later hb1 f2 (by omega))
    have ra1 := ra.up hb1
    have T01 := bs T0 hb1
    have z1 := hb1.size
    have TB := ba (b0 w1) (.cells #[.slice none 0 0] 26)
    have q1a := cell_alloc q1 (.cells #[.slice none 0 0] 26)
    clear hb1 k1 k2 f2 ra
    go_wp2
    go_loopw [6, 7, 8, 9] (fun s q _ _ wr => RsR xs w1 wr s q) (fun _ q _ _ _ => xs.length - (intOf q).toNat)
    case atStart => exact ⟨0, none, 0, Nat.zero_le _, rfl, rfl, World.ownsRow_nil _ _ _ _, TB, cell_new rfl rfl, froz_new rfl, by simp⟩
    case round =>
      obtain ⟨wo, rfl⟩ : ∃ wo : World, wo = wr := ⟨_, rfl⟩
      obtain ⟨k, G, cg, hk, rfl, rfl, hown, hbw, h5, g5, hz5⟩ := hrel
      have ht := fix_tot HV.out k hk
      have d0 := cell_later hbw q1
      by_cases hlt : k < xs.length
      · obtain ⟨bz, oz, rfl, _, hcz⟩ := (ra1.up hbw).at_ hlt
        have d1 := hcz k _ (ints_get xs k hlt)
        have hm := getD_hole HV.out k
        rw [getD_at hlt] at hm
        have HS := Lib.hid (fixL_take xs hlt)
        have HSU := Lib.hid (fix_sum HV.out hlt)
        have hdn := fix_dn HV.out hlt
        obtain ⟨u, hu⟩ : ∃ u, u = xs[k] := ⟨_, rfl⟩
        rw [← hu] at d1 hm HS HSU hdn
        obtain ⟨cn, hcn⟩ : ∃ cn : Int, cn = ((nearTo u 40).1.toNat : Int) := ⟨_, rfl⟩
        obtain ⟨dn, hdn'⟩ : ∃ dn, dn = (nearTo u 40).2 := ⟨_, rfl⟩
        obtain ⟨v, hvv⟩ : ∃ v, v = fixI u := ⟨_, rfl⟩
        obtain ⟨su, hsu⟩ : ∃ su, su = distTo xs (fixL xs) k := ⟨_, rfl⟩
        have HNE := Lib.hid (show ∀ w : World, Calls Try.prog 93 #[.int .i64 u] w fun e w' => e = .returned (.tuple #[.int .u8 cn, .int .i64 dn]) ∧ w = w' from fun w => by rw [hcn, hdn']; exact l06Repair_any u hm.1 hm.2 w)
        have HCO := Lib.hid (show ∀ w : World, Calls Try.prog 94 #[.int .u8 cn] w fun e w' => e = .returned (.int .i64 v) ∧ w = w' from fun w => by rw [hcn, hvv]; exact l03Code_fix u hm.1 hm.2 w)
        rw [← hvv] at HS
        rw [← hdn'] at HSU hdn
        rw [← hsu] at HSU ht ⊢
        have i1 : (k : Int) < (xs.length : Int) := by omega
        have h5a := cell_alloc h5 (.cells #[.int .i64 v] 2)
        have g5a := froz_alloc g5 (by omega) (.cells #[.int .i64 v] 2)
        clear hcz hu hcn hdn' hvv hm hsu
        go_wp2_with fail
        refine (HNE.out _).mono ?_; rintro e w4 ⟨rfl, rfl⟩
        go_wp2_with fail
        go_region_law (first
          | (refine step_ap rfl (.tmp 31) (.tmp 34) 24 rfl (w1.heap.size + 1) 2 i0 _ 1 8 Try.underlying24 hi hz0 hz1 hz2 rfl (by omega) G k cg (ints (fixL (xs.take k))) _ (by simp [Act.eval, Act.put]) (hown.alloc _) 1 #[.int .i64 v] wo.heap.size (heap_alloc_new wo _) (by simp [Act.eval, Act.put]) rfl (ints_one [v]) (by omega) (by omega) (by omega) (by simp; omega) ?_; intro g cap w3 hown3 hb3 hg3 hlt3; have e3 : w3.cell? ⟨w1.heap.size, 0, none⟩ = some (.slice G k cg) := (hb3.cell (p := ⟨w1.heap.size, 0, none⟩) (by simp)).trans (cell_alloc h5 _); have e4 : w3.frozen? ⟨w1.heap.size, 0, none⟩ = false := (hb3.frozen (p := ⟨w1.heap.size, 0, none⟩) (by simp)).trans (froz_alloc g5 (by omega) _))
          | (go_simp; go_at_call 94; refine (HCO.out _).mono ?_; rintro e w5 ⟨rfl, rfl⟩))
        all_goals
          have TW : Below w1.heap.size w1 w3 := (show Below w1.heap.size w1 _ from (ba hbw _).drew).trans (hb3.mono (by omega))
          have HT := Lib.hid (bset TW w1.heap.size 0 (.slice (some ⟨g, 0, none⟩) (k + 1) cap) (Nat.le_refl _))
          have HO := Lib.hid (show (w3.setCell ⟨w1.heap.size, 0, none⟩ (.slice (some ⟨g, 0, none⟩) (k + 1) cap)).ownsRow (w1.heap.size + 1) 2 1 (.slice (some ⟨g, 0, none⟩) (k + 1) cap) (k + 1) (ints (fixL (xs.take (k + 1)))) by
            rw [HS.out, ints_snoc]
            exact own_below hown3 _ _ _ (by omega))
          have H5 := Lib.hid (show (w3.setCell ⟨w1.heap.size, 0, none⟩ (.slice (some ⟨g, 0, none⟩) (k + 1) cap)).cell? ⟨w1.heap.size, 0, none⟩ = some (.slice (some ⟨g, 0, none⟩) (k + 1) cap) from World.cell?_setCell_same _ _ _ e3)
          have G5 := Lib.hid (show (w3.setCell ⟨w1.heap.size, 0, none⟩ (.slice (some ⟨g, 0, none⟩) (k + 1) cap)).frozen? ⟨w1.heap.size, 0, none⟩ = false by simp [e4])
          have HZ := Lib.hid (show w1.heap.size + 1 ≤ (w3.setCell ⟨w1.heap.size, 0, none⟩ (.slice (some ⟨g, 0, none⟩) (k + 1) cap)).heap.size by have h : w1.heap.size < w3.heap.size := World.block_lt_of_cell? _ _ e3; rw [World.size_setCell]; omega)
          clear hown hbw h5 g5 hown3 hb3 TW
          go_wp2
          go_roundw
          case rel =>
            have P : RsR xs w1 (w3.setCell ⟨w1.heap.size, 0, none⟩ (.slice (some ⟨g, 0, none⟩) (k + 1) cap)) (.int .i64 (su + dn)) (.int .i64 ((k : Int) + 1)) := ⟨k + 1, _, cap, by omega, by go_num, by rw [HSU.out], HO.out, HT.out, H5.out, G5.out, HZ.out⟩
            first | exact P | exact ⟨_, P, rfl⟩ | exact ⟨_, _, P, rfl, rfl⟩ | exact ⟨_, _, _, P, rfl, rfl, rfl⟩ | exact ⟨_, _, _, _, P, rfl, rfl, rfl, rfl⟩ | exact ⟨_, _, _, _, _, P, rfl, rfl, rfl, rfl, rfl⟩ | exact ⟨_, _, _, _, _, _, P, rfl, rfl, rfl, rfl, rfl, rfl⟩ | exact ⟨_, _, _, _, _, _, _, P, rfl, rfl, rfl, rfl, rfl, rfl, rfl⟩ | exact ⟨_, _, _, _, _, _, _, _, P, rfl, rfl, rfl, rfl, rfl, rfl, rfl, rfl⟩
          case measure => simp [intOf]; omega
      · obtain rfl : k = xs.length := by omega
        have HTK := Lib.hid (show xs.take xs.length = xs from List.take_length)
        rw [HTK.out] at hown
        have p3 := cell_later hbw HQ2.out
        have f3 := froz_later hbw HG2.out (by omega)
        have zw := hbw.size
        obtain ⟨su, hsu⟩ : ∃ su, su = distTo xs (fixL xs) xs.length := ⟨_, rfl⟩
        have HSU := Lib.hid (show rcN xs = su by rw [HN.out, hsu])
        rw [← hsu]
        clear hsu
        go_wp2
        refine bodyPost_ret (v := .tuple #[.agg #[.slice G xs.length cg], .int .i64 su, .int .i64 0]) (by simp [results, Try.results17, go_sem, *]) rfl ?_
        rw [HRL.out, HSU.out, HC.out, HR.out]
        exact ⟨_, _, rfl, own_base (own_below hown _ _ _ (by omega)) (by omega), bset (bs T01 hbw) _ _ _ (by omega)⟩
  · have HR := Lib.hid (show rcL xs = [] by unfold rcL; rw [if_neg (by rw [hv]; decide)])
    have HN := Lib.hid (show rcN xs = 0 by unfold rcN; rw [if_neg (by rw [hv]; decide)])
    have HC := Lib.hid (show rcC xs = 1 by unfold rcC; rw [if_neg (by rw [hv]; decide)])
    have HV := Lib.hid hv
    clear hv
    go_enter Try.func17, Try.ntmps17
    go_wp2_with fail
    rw [← HW.out]
    refine (l02Ok_any _ _ A c xs _ k1 ra hl).mono ?_; rw [HV.out]; rintro e w1 ⟨rfl, hb1⟩
    have p3 := cell_later hb1 k2
    have f3 := froz_later hb1 f2 (by omega)
    go_wp2
    refine bodyPost_ret (v := .tuple #[.agg #[.slice none 0 0], .int .i64 0, .int .i64 1]) (by simp [results, Try.results17, go_sem, *]) rfl ?_
    rw [HR.out, HN.out, HC.out]
    exact ⟨none, 0, rfl, World.ownsRow_nil _ _ _ _, bset (bs T0 hb1) _ _ _ (by omega)⟩
end Go.Proofs.Ythbgdnjlmaadjaa
