/- CorrectColumn, in the program and in the reference. -/
import Derived.Test.YtkmejkeanmjfbaaGreatDoorKd29
/-! ### Corr -/
namespace Go.Proofs.YtkmejkeanmjfbaaGreatDoor
open Go.RowKit

def ccC (xs : List Int) (k : Int) (c : UInt8) : Int := if cardOk xs = true then (if insideB k 0 ((xs.length : Int) - 1) = true then (if chB c = true then 0 else 7) else 2) else 1
def ccR (xs : List Int) (k : Int) (c : UInt8) : List Int := if ccC xs k c = 0 then xs.set k.toNat (codeV c.toNat) else []
theorem ccC_1 {xs : List Int} {k : Int} {c : UInt8} (h : cardOk xs = false) : ccC xs k c = 1 ∧ ccR xs k c = [] := by
  have h1 : ccC xs k c = 1 := by unfold ccC; rw [if_neg (by simp [h])]
  exact ⟨h1, by unfold ccR; rw [if_neg (by rw [h1]; omega)]⟩
theorem ccC_2 {xs : List Int} {k : Int} {c : UInt8} (h : cardOk xs = true) (hi : insideB k 0 ((xs.length : Int) - 1) = false) : ccC xs k c = 2 ∧ ccR xs k c = [] := by
  have h1 : ccC xs k c = 2 := by unfold ccC; rw [if_pos h, if_neg (by simp [hi])]
  exact ⟨h1, by unfold ccR; rw [if_neg (by rw [h1]; omega)]⟩
theorem ccC_7 {xs : List Int} {k : Int} {c : UInt8} (h : cardOk xs = true) (hi : insideB k 0 ((xs.length : Int) - 1) = true) (hc : chB c = false) : ccC xs k c = 7 ∧ ccR xs k c = [] := by
  have h1 : ccC xs k c = 7 := by unfold ccC; rw [if_pos h, if_pos hi, if_neg (by simp [hc])]
  exact ⟨h1, by unfold ccR; rw [if_neg (by rw [h1]; omega)]⟩
theorem ccC_0 {xs : List Int} {k : Nat} {c : UInt8} (h : cardOk xs = true) (hi : insideB (k : Int) 0 ((xs.length : Int) - 1) = true) (hc : chB c = true) : ccC xs (k : Int) c = 0 ∧ ccR xs (k : Int) c = xs.set k (codeV c.toNat) := by
  have h1 : ccC xs k c = 0 := by unfold ccC; rw [if_pos h, if_pos hi, if_pos hc]
  exact ⟨h1, by unfold ccR; rw [if_pos h1]; simp⟩
theorem ccC_zero {xs : List Int} {k : Int} {c : UInt8} (h : ccC xs k c = 0) : cardOk xs = true ∧ 0 ≤ k ∧ k < xs.length ∧ chB c = true ∧ ccR xs k c = xs.set k.toNat (codeV c.toNat) := by
  have hr : ccR xs k c = xs.set k.toNat (codeV c.toNat) := by unfold ccR; rw [if_pos h]
  unfold ccC at h
  split at h
  · rename_i h1
    split at h
    · rename_i h2
      have := insideB_true h2
      split at h
      · rename_i h3
        exact ⟨h1, by omega, by omega, h3, hr⟩
      · omega
    · omega
  · omega
theorem ccR_length (xs : List Int) (k : Int) (c : UInt8) : (ccR xs k c).length ≤ xs.length := by
  unfold ccR
  split
  · simp
  · simp
theorem own_someC {w : World} {base : Nat} {e : TypeId} {size n cap : Nat} {A : Option Addr} {xs : List Value} (h : w.ownsRow base e size (.slice A n cap) n xs) (hn : 0 < n) : ∃ g, A = some ⟨g, 0, none⟩ := by
  rcases h.2 with ⟨hv, hx⟩ | ⟨g, c, cur, hv, _⟩
  · exfalso
    have := h.1
    rw [hx] at this
    injection hv
    omega
  · injection hv with hA
    exact ⟨g, hA⟩
theorem ints_put (xs : List Int) (k : Nat) (v : Int) : (ints xs).set k (.int .i64 v) = ints (xs.set k v) := by unfold ints; rw [List.map_set]

set_option maxRecDepth 20000 in
set_option maxHeartbeats 4000000 in
theorem CorrectColumn_any (A : Option Addr) (c : Nat) (xs : List Int) (n : Int) (ch : UInt8) (w : World) (ha : Rd w w.heap.size 1 A xs.length (ints xs)) (hl : xs.length ≤ 1048576) (hc : xs.length ≤ c) :
    Calls Tryz.prog 12 #[.agg #[.slice A xs.length c], .int .i64 n, .int .u8 (ch.toNat : Int)] w fun e w' => ∃ B d, e = .returned (.tuple #[.agg #[.slice B (ccR xs n ch).length d], .int .i64 (ccC xs n ch)]) ∧
      w'.ownsRow w.heap.size 2 1 (.slice B (ccR xs n ch).length d) (ccR xs n ch).length (ints (ccR xs n ch)) ∧ Below w.heap.size w w' := by
  have T0 : Below w.heap.size w ((w.alloc (.cells #[.slice A xs.length c] 26)).alloc (.cells #[.slice none 0 0] 26)) := ba (ba (b0 _) _) _
  have HVC := Lib.hid (fun V (x : Rd V V.heap.size 1 A xs.length (ints xs)) => ValidCard_any A c xs V x hl)
  have hw1 : wrap64 ((xs.length : Int) - 1) = (xs.length : Int) - 1 := by unfold wrap64; omega
  cases hv : cardOk xs with
  | false =>
    obtain ⟨hq1, hq2⟩ := ccC_1 (k := n) (c := ch) hv
    have HC := Lib.hid hq1
    have HR := Lib.hid hq2
    rw [hv] at HVC
    clear hq1 hq2 hv
    go_enter Tryz.func12, Tryz.ntmps12
    go_wp2_with fail
    refine (HVC.out _ ((ha.a1 _).a1 _)).mono ?_; rintro e w1 ⟨rfl, hb1⟩
    have k2 : w1.cell? ⟨w.heap.size + 1, 0, none⟩ = some (.slice none 0 0) := cell_later hb1 (by simp)
    have f2 : w1.frozen? ⟨w.heap.size + 1, 0, none⟩ = false := (hb1.frozen (p := ⟨w.heap.size + 1, 0, none⟩) (by simp)).trans (by simp)
    go_wp2
    refine bodyPost_ret (v := .tuple #[.agg #[.slice none 0 0], .int .i64 1]) (by simp [results, Tryz.results12, go_sem, *]) rfl ?_
    rw [HC.out, HR.out]
    exact ⟨none, 0, rfl, World.ownsRow_nil _ _ _ _, bset (bs T0 hb1) _ _ _ (by omega)⟩
  | true =>
    have hlen := cardOk_len hv
    rw [hv] at HVC
    have HII := Lib.hid (fun V => inside_any n 0 ((xs.length : Int) - 1) V)
    have HCO := Lib.hid (fun V => columns_any A xs.length c V hl)
    cases hi : insideB n 0 ((xs.length : Int) - 1) with
    | false =>
      obtain ⟨hq1, hq2⟩ := ccC_2 (c := ch) hv hi
      have HC := Lib.hid hq1
      have HR := Lib.hid hq2
      rw [hi] at HII
      clear hq1 hq2 hv hi
      go_enter Tryz.func12, Tryz.ntmps12
      go_wp2_with fail
      refine (HVC.out _ ((ha.a1 _).a1 _)).mono ?_; rintro e w1 ⟨rfl, hb1⟩
      have k1 : w1.cell? ⟨w.heap.size, 0, none⟩ = some (.slice A xs.length c) := cell_later hb1 (by simp)
      have k2 : w1.cell? ⟨w.heap.size + 1, 0, none⟩ = some (.slice none 0 0) := cell_later hb1 (by simp)
      have f2 : w1.frozen? ⟨w.heap.size + 1, 0, none⟩ = false := (hb1.frozen (p := ⟨w.heap.size + 1, 0, none⟩) (by simp)).trans (by simp)
      have z1 := hb1.size
      go_wp2_with fail
      refine (HCO.out _).mono ?_; rintro e w2 ⟨rfl, hb2⟩
      replace k2 := cell_later hb2 k2
      have f3 : w2.frozen? ⟨w.heap.size + 1, 0, none⟩ = false := (hb2.frozen (p := ⟨w.heap.size + 1, 0, none⟩) (by simp only; simp at z1; omega)).trans f2
      go_wp2_with fail
      refine (HII.out _).mono ?_; rintro e w3 ⟨rfl, rfl⟩
      go_wp2
      refine bodyPost_ret (v := .tuple #[.agg #[.slice none 0 0], .int .i64 2]) (by simp [results, Tryz.results12, go_sem, *]) rfl ?_
      rw [HC.out, HR.out]
      exact ⟨none, 0, rfl, World.ownsRow_nil _ _ _ _, bset (bs (bs T0 hb1) hb2) _ _ _ (by omega)⟩
    | true =>
      have hir := insideB_true hi
      obtain ⟨k, rfl⟩ : ∃ k : Nat, n = (k : Int) := ⟨n.toNat, by omega⟩
      have hkl : k < xs.length := by omega
      have HIC := Lib.hid (fun V => isCharacter_any ch V)
      have hv2 := hv
      have hi2 := hi
      rw [hi] at HII
      clear hv hi
      cases hch : chB ch with
      | false =>
        obtain ⟨hq1, hq2⟩ := ccC_7 hv2 hi2 hch
        have HC := Lib.hid hq1
        have HR := Lib.hid hq2
        rw [hch] at HIC
        clear hq1 hq2 hv2 hi2 hch hir
        go_enter Tryz.func12, Tryz.ntmps12
        go_wp2_with fail
        refine (HVC.out _ ((ha.a1 _).a1 _)).mono ?_; rintro e w1 ⟨rfl, hb1⟩
        have k1 : w1.cell? ⟨w.heap.size, 0, none⟩ = some (.slice A xs.length c) := cell_later hb1 (by simp)
        have k2 : w1.cell? ⟨w.heap.size + 1, 0, none⟩ = some (.slice none 0 0) := cell_later hb1 (by simp)
        have f2 : w1.frozen? ⟨w.heap.size + 1, 0, none⟩ = false := (hb1.frozen (p := ⟨w.heap.size + 1, 0, none⟩) (by simp)).trans (by simp)
        have z1 := hb1.size
        go_wp2_with fail
        refine (HCO.out _).mono ?_; rintro e w2 ⟨rfl, hb2⟩
        replace k2 := cell_later hb2 k2
        have f3 : w2.frozen? ⟨w.heap.size + 1, 0, none⟩ = false := (hb2.frozen (p := ⟨w.heap.size + 1, 0, none⟩) (by simp only; simp at z1; omega)).trans f2
        go_wp2_with fail
        refine (HII.out _).mono ?_; rintro e w3 ⟨rfl, rfl⟩
        go_wp2_with fail
        refine (HIC.out _).mono ?_; rintro e w3 ⟨rfl, rfl⟩
        go_wp2
        refine bodyPost_ret (v := .tuple #[.agg #[.slice none 0 0], .int .i64 7]) (by simp [results, Tryz.results12, go_sem, *]) rfl ?_
        rw [HC.out, HR.out]
        exact ⟨none, 0, rfl, World.ownsRow_nil _ _ _ _, bset (bs (bs T0 hb1) hb2) _ _ _ (by omega)⟩
      | true =>
        obtain ⟨hq1, hq2⟩ := ccC_0 hv2 hi2 hch
        have HC := Lib.hid hq1
        have HR := Lib.hid hq2
        obtain ⟨v, hvv⟩ : ∃ v, v = codeV ch.toNat := ⟨_, rfl⟩
        have HCD := Lib.hid (fun V => codeOf_z ch (codeV ch.toNat) V rfl hch)
        rw [← hvv] at HR HCD
        rw [hch] at HIC
        clear hq1 hq2 hv2 hi2 hch hvv hir
        go_enter Tryz.func12, Tryz.ntmps12
        go_wp2_with fail
        refine (HVC.out _ ((ha.a1 _).a1 _)).mono ?_; rintro e w1 ⟨rfl, hb1⟩
        have k1 : w1.cell? ⟨w.heap.size, 0, none⟩ = some (.slice A xs.length c) := cell_later hb1 (by simp)
        have k2 : w1.cell? ⟨w.heap.size + 1, 0, none⟩ = some (.slice none 0 0) := cell_later hb1 (by simp)
        have f2 : w1.frozen? ⟨w.heap.size + 1, 0, none⟩ = false := (hb1.frozen (p := ⟨w.heap.size + 1, 0, none⟩) (by simp)).trans (by simp)
        have z1 := hb1.size
        have ra1 := ((ha.a1 (.cells #[.slice A xs.length c] 26)).a1 (.cells #[.slice none 0 0] 26)).up hb1
        go_wp2_with fail
        refine (HCO.out _).mono ?_; rintro e w2 ⟨rfl, hb2⟩
        replace k1 := cell_later hb2 k1
        replace k2 := cell_later hb2 k2
        replace ra1 := ra1.up hb2
        have z2 := hb2.size
        simp only [World.size_alloc] at z1
        have f3 : w2.frozen? ⟨w.heap.size + 1, 0, none⟩ = false := (hb2.frozen (p := ⟨w.heap.size + 1, 0, none⟩) (by simp only; omega)).trans f2
        have T2 := bs (bs T0 hb1) hb2
        clear hb1 hb2 f2
        go_wp2_with fail
        refine (HII.out _).mono ?_; rintro e w3 ⟨rfl, rfl⟩
        go_wp2_with fail
        refine (HIC.out _).mono ?_; rintro e w3 ⟨rfl, rfl⟩
        go_wp2_with fail
        refine (newCard_any A c xs _ ra1 hl).mono ?_; rintro e w4 ⟨B, d, rfl, ho, hb4⟩
        obtain ⟨g, rfl⟩ := own_someC ho (by omega)
        have hg : w2.heap.size ≤ g ∧ g < w4.heap.size := ho.lt g rfl
        have z4 := hb4.size
        have TB := ba (b0 w4) (.cells #[.slice (some ⟨g, 0, none⟩) xs.length d] 26)
        obtain ⟨W, hW⟩ : ∃ W, W = w4.alloc (.cells #[.slice (some ⟨g, 0, none⟩) xs.length d] 26) := ⟨_, rfl⟩
        have h7 : W.cell? ⟨w4.heap.size, 0, none⟩ = some (.slice (some ⟨g, 0, none⟩) xs.length d) := by rw [hW]; exact cell_new rfl rfl
        have hown : W.ownsRow w2.heap.size 2 1 (.slice (some ⟨g, 0, none⟩) xs.length d) xs.length (ints xs) := by rw [hW]; exact own_bs ho TB
        have hWs : W.heap.size = w4.heap.size + 1 := by rw [hW]; simp
        have p2 : W.cell? ⟨w.heap.size + 1, 0, none⟩ = some (.slice none 0 0) := by rw [hW]; exact cell_later TB (cell_later hb4 k2)
        have f4 : W.frozen? ⟨w.heap.size + 1, 0, none⟩ = false := by
          rw [hW]
          exact froz_later TB (froz_later hb4 f3 (by omega)) (by omega)
        have TW : Below w.heap.size w W := by rw [hW]; exact bs (bs T2 hb4) TB
        have HW := Lib.hid hW
        clear hW TB ho hb4 k1 k2 f3 T2 ra1 hc
        have hkl2 : k < (ints xs).length := by rw [ints_length]; exact hkl
        have c6 := own_cell hown k hkl2
        have c7 := hown.frozenAt k
        have i1 : (k : Int) < (xs.length : Int) := by omega
        have i2 : 0 ≤ (k : Int) := by omega
        have HST := Lib.hid (show (W.setCell ⟨g, k, none⟩ (.int .i64 v)).ownsRow w2.heap.size 2 1 (.slice (some ⟨g, 0, none⟩) xs.length d) xs.length (ints (xs.set k v)) by
          rw [← ints_put]
          exact ownsRow_set hown k _)
        have hgw : ¬ g = w4.heap.size := by omega
        have hgz : ¬ g = w.heap.size + 1 := by omega
        have HB := Lib.hid (bset TW g k (.int .i64 v) (by omega))
        have H7 := Lib.hid (set_far (u := .int .i64 v) (k := k) h7 hgw)
        have HP2 := Lib.hid (set_far (u := .int .i64 v) (k := k) p2 hgz)
        have HF4 := Lib.hid (set_far_f (u := .int .i64 v) (k := k) f4 hgz)
        have HZ := Lib.hid (show w.heap.size + 1 < (W.setCell ⟨g, k, none⟩ (.int .i64 v)).heap.size by rw [World.size_setCell]; omega)
        have HLEN := Lib.hid (show (xs.set k v).length = xs.length by simp)
        go_wp2_with fail
        rw [← HW.out]
        go_region_held3 (fun w' => w'.cell? ⟨w4.heap.size, 0, none⟩ = some (.slice (some ⟨g, 0, none⟩) xs.length d)) (first | exact h7 | go_keep)
          (first
            | (go_at_call 47; refine (HCD.out _).mono ?_; rintro e w5 ⟨rfl, rfl⟩))
        have TX : Below (W.setCell ⟨g, k, none⟩ (.int .i64 v)).heap.size (W.setCell ⟨g, k, none⟩ (.int .i64 v)) (W.setCell ⟨g, k, none⟩ (.int .i64 v)).drew := (b0 _).drew
        have q7 := cell_later TX H7.out
        have q2 := cell_later TX HP2.out
        have q4 := froz_later TX HF4.out HZ.out
        have HST2 := Lib.hid (own_bs HST.out TX)
        have HB2 := Lib.hid (show Below w.heap.size w (W.setCell ⟨g, k, none⟩ (.int .i64 v)).drew from HB.out.drew)
        clear TX
        go_wp2
        refine bodyPost_ret (v := .tuple #[.agg #[.slice (some ⟨g, 0, none⟩) xs.length d], .int .i64 0]) (by simp [results, Tryz.results12, go_sem, *]) rfl ?_
        rw [HC.out, HR.out, HLEN.out]
        exact ⟨_, _, rfl, own_base (own_below HST2.out _ _ _ (by omega)) (by omega), bset HB2.out _ _ _ (by omega)⟩
set_option maxRecDepth 20000 in
set_option maxHeartbeats 4000000 in
theorem spCorrectColumn_any (A : Option Addr) (c : Nat) (xs : List Int) (n : Int) (ch : UInt8) (w : World) (ha : Rd w w.heap.size 1 A xs.length (ints xs)) (hl : xs.length ≤ 1048576) (hc : xs.length ≤ c) :
    Calls Tryz.prog 13 #[.agg #[.slice A xs.length c], .int .i64 n, .int .u8 (ch.toNat : Int)] w fun e w' => ∃ B d, e = .returned (.tuple #[.agg #[.slice B (ccR xs n ch).length d], .int .i64 (ccC xs n ch)]) ∧
      w'.ownsRow w.heap.size 2 1 (.slice B (ccR xs n ch).length d) (ccR xs n ch).length (ints (ccR xs n ch)) ∧ Below w.heap.size w w' := by
  have T0 : Below w.heap.size w ((w.alloc (.cells #[.slice A xs.length c] 26)).alloc (.cells #[.slice none 0 0] 26)) := ba (ba (b0 _) _) _
  have HVC := Lib.hid (fun V (y : V.cell? ⟨w.heap.size, 0, none⟩ = some (.slice A xs.length c)) (x : Rd V V.heap.size 1 A xs.length (ints xs)) => l02Ok_any w.heap.size 0 A c xs V y x hl)
  have hw1 : wrap64 ((xs.length : Int) - 1) = (xs.length : Int) - 1 := by unfold wrap64; omega
  cases hv : cardOk xs with
  | false =>
    obtain ⟨hq1, hq2⟩ := ccC_1 (k := n) (c := ch) hv
    have HC := Lib.hid hq1
    have HR := Lib.hid hq2
    rw [hv] at HVC
    clear hq1 hq2 hv
    go_enter Tryz.func13, Tryz.ntmps13
    go_wp2_with fail
    refine (HVC.out _ (cell_alloc (cell_new rfl rfl) _) ((ha.a1 _).a1 _)).mono ?_; rintro e w1 ⟨rfl, hb1⟩
    have k2 : w1.cell? ⟨w.heap.size + 1, 0, none⟩ = some (.slice none 0 0) := cell_later hb1 (by simp)
    have f2 : w1.frozen? ⟨w.heap.size + 1, 0, none⟩ = false := (hb1.frozen (p := ⟨w.heap.size + 1, 0, none⟩) (by simp)).trans (by simp)
    go_wp2
    refine bodyPost_ret (v := .tuple #[.agg #[.slice none 0 0], .int .i64 1]) (by simp [results, Tryz.results13, go_sem, *]) rfl ?_
    rw [HC.out, HR.out]
    exact ⟨none, 0, rfl, World.ownsRow_nil _ _ _ _, bset (bs T0 hb1) _ _ _ (by omega)⟩
  | true =>
    have hlen := cardOk_len hv
    rw [hv] at HVC
    have HII := Lib.hid (fun V => l00In_any n 0 ((xs.length : Int) - 1) V)
    cases hi : insideB n 0 ((xs.length : Int) - 1) with
    | false =>
      obtain ⟨hq1, hq2⟩ := ccC_2 (c := ch) hv hi
      have HC := Lib.hid hq1
      have HR := Lib.hid hq2
      rw [hi] at HII
      clear hq1 hq2 hv hi
      go_enter Tryz.func13, Tryz.ntmps13
      go_wp2_with fail
      refine (HVC.out _ (cell_alloc (cell_new rfl rfl) _) ((ha.a1 _).a1 _)).mono ?_; rintro e w1 ⟨rfl, hb1⟩
      have k1 : w1.cell? ⟨w.heap.size, 0, none⟩ = some (.slice A xs.length c) := cell_later hb1 (by simp)
      have k2 : w1.cell? ⟨w.heap.size + 1, 0, none⟩ = some (.slice none 0 0) := cell_later hb1 (by simp)
      have f2 : w1.frozen? ⟨w.heap.size + 1, 0, none⟩ = false := (hb1.frozen (p := ⟨w.heap.size + 1, 0, none⟩) (by simp)).trans (by simp)
      have z1 := hb1.size
      go_wp2_with fail
      refine (HII.out _).mono ?_; rintro e w3 ⟨rfl, rfl⟩
      go_wp2
      refine bodyPost_ret (v := .tuple #[.agg #[.slice none 0 0], .int .i64 2]) (by simp [results, Tryz.results13, go_sem, *]) rfl ?_
      rw [HC.out, HR.out]
      exact ⟨none, 0, rfl, World.ownsRow_nil _ _ _ _, bset (bs T0 hb1) _ _ _ (by omega)⟩
    | true =>
      have hir := insideB_true hi
      obtain ⟨k, rfl⟩ : ∃ k : Nat, n = (k : Int) := ⟨n.toNat, by omega⟩
      have hkl : k < xs.length := by omega
      obtain ⟨v, hvv⟩ : ∃ v, v = codeV ch.toNat := ⟨_, rfl⟩
      have HIC := Lib.hid (fun V => l03Code_zz ch v V hvv)
      have hv2 := hv
      have hi2 := hi
      rw [hi] at HII
      clear hv hi
      cases hch : chB ch with
      | false =>
        obtain ⟨hq1, hq2⟩ := ccC_7 hv2 hi2 hch
        have HC := Lib.hid hq1
        have HR := Lib.hid hq2
        have hneg : v < 0 := by unfold chB at hch; have := of_decide_eq_false hch; omega
        clear hq1 hq2 hv2 hi2 hch hir hvv
        go_enter Tryz.func13, Tryz.ntmps13
        go_wp2_with fail
        refine (HVC.out _ (cell_alloc (cell_new rfl rfl) _) ((ha.a1 _).a1 _)).mono ?_; rintro e w1 ⟨rfl, hb1⟩
        have k1 : w1.cell? ⟨w.heap.size, 0, none⟩ = some (.slice A xs.length c) := cell_later hb1 (by simp)
        have k2 : w1.cell? ⟨w.heap.size + 1, 0, none⟩ = some (.slice none 0 0) := cell_later hb1 (by simp)
        have f2 : w1.frozen? ⟨w.heap.size + 1, 0, none⟩ = false := (hb1.frozen (p := ⟨w.heap.size + 1, 0, none⟩) (by simp)).trans (by simp)
        have z1 := hb1.size
        go_wp2_with fail
        refine (HII.out _).mono ?_; rintro e w3 ⟨rfl, rfl⟩
        go_wp2_with fail
        refine (HIC.out _).mono ?_; rintro e w3 ⟨rfl, rfl⟩
        go_wp2
        refine bodyPost_ret (v := .tuple #[.agg #[.slice none 0 0], .int .i64 7]) (by simp [results, Tryz.results13, go_sem, *]) rfl ?_
        rw [HC.out, HR.out]
        exact ⟨none, 0, rfl, World.ownsRow_nil _ _ _ _, bset (bs T0 hb1) _ _ _ (by omega)⟩
      | true =>
        obtain ⟨hq1, hq2⟩ := ccC_0 hv2 hi2 hch
        have HC := Lib.hid hq1
        have HR := Lib.hid hq2
        have hneg : ¬ v < 0 := by unfold chB at hch; have := of_decide_eq_true hch; omega
        rw [← hvv] at HR
        clear hq1 hq2 hv2 hi2 hch hvv hir
        go_enter Tryz.func13, Tryz.ntmps13
        go_wp2_with fail
        refine (HVC.out _ (cell_alloc (cell_new rfl rfl) _) ((ha.a1 _).a1 _)).mono ?_; rintro e w1 ⟨rfl, hb1⟩
        have k1 : w1.cell? ⟨w.heap.size, 0, none⟩ = some (.slice A xs.length c) := cell_later hb1 (by simp)
        have k2 : w1.cell? ⟨w.heap.size + 1, 0, none⟩ = some (.slice none 0 0) := cell_later hb1 (by simp)
        have f2 : w1.frozen? ⟨w.heap.size + 1, 0, none⟩ = false := (hb1.frozen (p := ⟨w.heap.size + 1, 0, none⟩) (by simp)).trans (by simp)
        have z1 := hb1.size
        have ra1 := ((ha.a1 (.cells #[.slice A xs.length c] 26)).a1 (.cells #[.slice none 0 0] 26)).up hb1
        simp only [World.size_alloc] at z1
        have T2 := bs T0 hb1
        clear hb1
        go_wp2_with fail
        refine (HII.out _).mono ?_; rintro e w3 ⟨rfl, rfl⟩
        go_wp2_with fail
        refine (HIC.out _).mono ?_; rintro e w3 ⟨rfl, rfl⟩
        go_wp2_with fail
        refine (l02Own_any w.heap.size 0 A c xs _ k1 ra1 hl).mono ?_; rintro e w4 ⟨B, d, rfl, ho, hb4⟩
        obtain ⟨g, rfl⟩ := own_someC ho (by omega)
        have hg : w1.heap.size ≤ g ∧ g < w4.heap.size := ho.lt g rfl
        have z4 := hb4.size
        have TB := ba (b0 w4) (.cells #[.slice (some ⟨g, 0, none⟩) xs.length d] 26)
        obtain ⟨W, hW⟩ : ∃ W, W = w4.alloc (.cells #[.slice (some ⟨g, 0, none⟩) xs.length d] 26) := ⟨_, rfl⟩
        have h7 : W.cell? ⟨w4.heap.size, 0, none⟩ = some (.slice (some ⟨g, 0, none⟩) xs.length d) := by rw [hW]; exact cell_new rfl rfl
        have hown : W.ownsRow w1.heap.size 2 1 (.slice (some ⟨g, 0, none⟩) xs.length d) xs.length (ints xs) := by rw [hW]; exact own_bs ho TB
        have hWs : W.heap.size = w4.heap.size + 1 := by rw [hW]; simp
        have p2 : W.cell? ⟨w.heap.size + 1, 0, none⟩ = some (.slice none 0 0) := by rw [hW]; exact cell_later TB (cell_later hb4 k2)
        have f4 : W.frozen? ⟨w.heap.size + 1, 0, none⟩ = false := by
          rw [hW]
          exact froz_later TB (froz_later hb4 f2 (by omega)) (by omega)
        have TW : Below w.heap.size w W := by rw [hW]; exact bs (bs T2 hb4) TB
        have HW := Lib.hid hW
        clear hW TB ho hb4 k1 k2 f2 T2 ra1 hc
        have hkl2 : k < (ints xs).length := by rw [ints_length]; exact hkl
        have c6 := own_cell hown k hkl2
        have c7 := hown.frozenAt k
        have i1 : (k : Int) < (xs.length : Int) := by omega
        have i2 : 0 ≤ (k : Int) := by omega
        have HST := Lib.hid (show (W.setCell ⟨g, k, none⟩ (.int .i64 v)).ownsRow w1.heap.size 2 1 (.slice (some ⟨g, 0, none⟩) xs.length d) xs.length (ints (xs.set k v)) by
          rw [← ints_put]
          exact ownsRow_set hown k _)
        have hgw : ¬ g = w4.heap.size := by omega
        have hgz : ¬ g = w.heap.size + 1 := by omega
        have HB := Lib.hid (bset TW g k (.int .i64 v) (by omega))
        have H7 := Lib.hid (set_far (u := .int .i64 v) (k := k) h7 hgw)
        have HP2 := Lib.hid (set_far (u := .int .i64 v) (k := k) p2 hgz)
        have HF4 := Lib.hid (set_far_f (u := .int .i64 v) (k := k) f4 hgz)
        have HZ := Lib.hid (show w.heap.size + 1 < (W.setCell ⟨g, k, none⟩ (.int .i64 v)).heap.size by rw [World.size_setCell]; omega)
        have HLEN := Lib.hid (show (xs.set k v).length = xs.length by simp)
        go_upto_region 9 with fail
        rw [← HW.out]
        have HB2 := Lib.hid HB.out
        have HST2 := Lib.hid HST.out
        have q7 := H7.out
        have q2 := HP2.out
        have q4 := HF4.out
        go_wp2
        refine bodyPost_ret (v := .tuple #[.agg #[.slice (some ⟨g, 0, none⟩) xs.length d], .int .i64 0]) (by simp [results, Tryz.results13, go_sem, *]) rfl ?_
        rw [HC.out, HR.out, HLEN.out]
        exact ⟨_, _, rfl, own_base (own_below HST2.out _ _ _ (by omega)) (by omega), bset HB2.out _ _ _ (by omega)⟩
end Go.Proofs.YtkmejkeanmjfbaaGreatDoor
