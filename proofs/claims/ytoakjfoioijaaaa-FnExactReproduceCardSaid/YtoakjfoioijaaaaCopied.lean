/- Copies of columns into a card; ReproduceCard; in the program and in the reference. -/
import Derived.Test.YtoakjfoioijaaaaValidCopies
import Derived.Test.YtoakjfoioijaaaaCards
import Derived.Test.YtoakjfoioijaaaaLace
import Derived.StillTailTactics
import Derived.Deep.RegionHeld3
namespace Go.Proofs.Ytoakjfoioijaaaa
open Go.RowKit

/-- The columns behind k copies. -/
def copTo (xs ys : List Int) (ps : List (Int × Int)) (k : Nat) : List Int := (ps.take k).foldl (fun acc p => acc.set p.2.toNat (bits .or .i64 (acc.getD p.2.toNat 0) (ys.getD p.1.toNat 0))) xs
theorem copTo_zero (xs ys : List Int) (ps : List (Int × Int)) : copTo xs ys ps 0 = xs := by simp [copTo]
theorem copTo_length (xs ys : List Int) (ps : List (Int × Int)) (k : Nat) : (copTo xs ys ps k).length = xs.length := by
  unfold copTo
  generalize ps.take k = qs
  induction qs generalizing xs with
  | nil => rfl
  | cons p qs ih =>
    rw [List.foldl_cons, ih]
    simp
theorem copTo_succ {xs ys : List Int} {ps : List (Int × Int)} {k m1 m2 : Nat} (hk : k < ps.length) (h1 : ps[k].1 = (m1 : Int)) (h2 : ps[k].2 = (m2 : Int)) (hm1 : m1 < ys.length) (hm2 : m2 < (copTo xs ys ps k).length) :
    copTo xs ys ps (k + 1) = (copTo xs ys ps k).set m2 (bits .or .i64 (copTo xs ys ps k)[m2] ys[m1]) := by
  have e : copTo xs ys ps (k + 1) = (fun acc (p : Int × Int) => acc.set p.2.toNat (bits .or .i64 (acc.getD p.2.toNat 0) (ys.getD p.1.toNat 0))) (copTo xs ys ps k) ps[k] := by
    unfold copTo
    rw [List.take_succ_eq_append_getElem hk, List.foldl_append]
    rfl
  rw [e]
  simp only [h1, h2, Int.toNat_natCast, List.getD, List.getElem?_eq_getElem hm1, List.getElem?_eq_getElem hm2, Option.getD_some]
theorem copiesOk_all {ps : List (Int × Int)} {f t : Int} (h : copiesOk ps f t = true) {k : Nat} (hk : k < ps.length) : 0 ≤ ps[k].1 ∧ ps[k].1 < f ∧ 0 ≤ ps[k].2 ∧ ps[k].2 < t := by
  simp only [copiesOk, Bool.and_eq_true] at h
  have h0 := List.all_eq_true.1 h.1 k (List.mem_range.2 hk)
  simp only [plainAt, Bool.and_eq_true, List.getD, List.getElem?_eq_getElem hk, Option.getD_some] at h0
  have h1 := insideB_true h0.1
  have h3 := insideB_true h0.2.1
  have h2 := List.all_eq_true.1 h.2 _ (List.getElem_mem hk)
  simp only [fitsB, Bool.and_eq_true, decide_eq_true_eq] at h2
  omega
theorem copies_at {ps : List (Int × Int)} {f t : Int} (h : copiesOk ps f t = true) {k : Nat} (hk : k < ps.length) : ∃ m1 m2 : Nat, ps[k].1 = (m1 : Int) ∧ ps[k].2 = (m2 : Int) ∧ (m1 : Int) < f ∧ (m2 : Int) < t := by
  have h1 := copiesOk_all h hk
  exact ⟨ps[k].1.toNat, ps[k].2.toNat, by omega, by omega, by omega, by omega⟩

/-- Behind k copies. -/
def CpR (xs ys : List Int) (ps : List (Int × Int)) (g cg : Nat) (W w2 wr : World) (q : Value) : Prop := ∃ k : Nat, k ≤ ps.length ∧ q = .int .i64 k ∧ wr.ownsRow W.heap.size 2 1 (.slice (some ⟨g, 0, none⟩) xs.length cg) xs.length (ints (copTo xs ys ps k)) ∧ Below W.heap.size W wr ∧
    wr.cell? ⟨w2.heap.size, 0, none⟩ = some (.slice (some ⟨g, 0, none⟩) xs.length cg) ∧ w2.heap.size < wr.heap.size

set_option maxRecDepth 20000 in
set_option maxHeartbeats 2000000 in
theorem copied_any (A : Option Addr) (c : Nat) (xs : List Int) (B : Option Addr) (d : Nat) (ys : List Int) (C : Option Addr) (cp : Nat) (ps : List (Int × Int)) (w : World) (ha : Rd w w.heap.size 1 A xs.length (ints xs)) (hb : Rd w w.heap.size 1 B ys.length (ints ys)) (hp : Rd w w.heap.size 2 C ps.length (prs ps))
    (hl : xs.length ≤ 1048576) (hl' : ys.length ≤ 1048576) (hlp : ps.length ≤ 1048576) (hx : 0 < xs.length) (hok : copiesOk ps (ys.length : Int) (xs.length : Int) = true) :
    Calls Try.prog 72 #[.agg #[.slice A xs.length c], .agg #[.slice B ys.length d], .slice C ps.length cp] w fun e w' => ∃ G cg, e = .returned (.agg #[.slice G xs.length cg]) ∧
      w'.ownsRow w.heap.size 2 1 (.slice G xs.length cg) xs.length (ints (copTo xs ys ps ps.length)) ∧ Below w.heap.size w w' := by
  have T0 : Below w.heap.size w (((w.alloc (.cells #[.slice A xs.length c] 28)).alloc (.cells #[.slice B ys.length d] 28)).alloc (.cells #[.slice none 0 0] 28)) := ba (ba (ba (b0 w) _) _) _
  have ra := ((ha.a1 (.cells #[.slice A xs.length c] 28)).a1 (.cells #[.slice B ys.length d] 28)).a1 (.cells #[.slice none 0 0] 28)
  have rb := ((hb.a1 (.cells #[.slice A xs.length c] 28)).a1 (.cells #[.slice B ys.length d] 28)).a1 (.cells #[.slice none 0 0] 28)
  have rp := ((hp.a1 (.cells #[.slice A xs.length c] 28)).a1 (.cells #[.slice B ys.length d] 28)).a1 (.cells #[.slice none 0 0] 28)
  obtain ⟨W, hW⟩ : ∃ W, W = (((w.alloc (.cells #[.slice A xs.length c] 28)).alloc (.cells #[.slice B ys.length d] 28)).alloc (.cells #[.slice none 0 0] 28)) := ⟨_, rfl⟩
  have k1 : W.cell? ⟨w.heap.size, 0, none⟩ = some (.slice A xs.length c) := by rw [hW]; exact cell_alloc (cell_alloc (cell_new rfl rfl) _) _
  have k2 : W.cell? ⟨w.heap.size + 1, 0, none⟩ = some (.slice B ys.length d) := by rw [hW]; exact cell_alloc (cell_new (by simp) rfl) _
  have k3 : W.cell? ⟨w.heap.size + 1 + 1, 0, none⟩ = some (.slice none 0 0) := by rw [hW]; exact cell_new (by simp) rfl
  have f3 : W.frozen? ⟨w.heap.size + 1 + 1, 0, none⟩ = false := by rw [hW]; exact froz_new (by simp)
  have HWS := Lib.hid (show W.heap.size = w.heap.size + 1 + 1 + 1 by rw [hW]; simp)
  rw [← hW] at ra rb rp T0
  have HW := Lib.hid hW
  have HOK := Lib.hid hok
  clear hW ha hb hp hok
  go_enter Try.func72, Try.ntmps72
  go_wp2_with fail
  rw [← HW.out]
  refine (newCard_any _ _ xs _ ra hl).mono ?_; rintro e w2 ⟨G, cg, rfl, ho, hb2⟩
  obtain ⟨g, rfl, hg, hglt⟩ := own_at ho hx
  have q2 := cell_later hb2 k2
  have q3 := cell_later hb2 k3
  have hws := HWS.out
  have g3 : w2.frozen? ⟨w.heap.size + 1 + 1, 0, none⟩ = false := froz_later hb2 f3 (by omega)
  have T2 := bs T0 hb2
  have hz2 := hb2.size
  have ho3 := ho.alloc (.cells #[.slice (some ⟨g, 0, none⟩) xs.length cg] 28)
  have hgne : ¬ g = w2.heap.size := by omega
  clear k1 q3 g3 ra ho
  go_wp2
  go_loopw [9, 14] (fun _ q wr => CpR xs ys ps g cg W w2 wr q) (fun _ q _ => ps.length - (intOf q).toNat)
  case atStart => exact ⟨0, Nat.zero_le _, rfl, by rw [copTo_zero]; exact ho3, ba hb2 _, cell_new rfl rfl, by simp⟩
  case round =>
    obtain ⟨wo, rfl⟩ : ∃ wo : World, wo = wr := ⟨_, rfl⟩
    obtain ⟨k, hk, rfl, hown, hbw, h7, hz7⟩ := hrel
    by_cases hlt : k < ps.length
    · obtain ⟨m1, m2, hm1, hm2, hlt1, hlt2⟩ := copies_at HOK.out hlt
      have hl1 : m1 < ys.length := by omega
      have hl2 : m2 < xs.length := by omega
      have hl2' : m2 < (copTo xs ys ps k).length := by rw [copTo_length]; exact hl2
      have HS := Lib.hid (copTo_succ hlt hm1 hm2 hl1 hl2')
      obtain ⟨bp, op, rfl, _, hcp⟩ := (rp.up hbw).at_ hlt
      have d1 := hcp _ _ (prs_fst ps k hlt)
      have d2 := hcp _ _ (prs_snd ps k hlt)
      rw [← Nat.add_assoc] at d2
      rw [hm1] at d1
      rw [hm2] at d2
      obtain ⟨by1, oy, rfl, _, hcy⟩ := (rb.up hbw).at_ hl1
      have dy := hcy m1 _ (ints_get ys m1 hl1)
      have k4 := cell_later hbw k2
      obtain ⟨Wx, hWx⟩ : ∃ Wx : World, Wx = (wo.alloc (.cells #[.int .i64 (m1 : Int), .int .i64 (m2 : Int)] 92)).drew := ⟨_, rfl⟩
      have HWX := Lib.hid (show Wx = { wo.alloc (.cells #[.int .i64 (m1 : Int), .int .i64 (m2 : Int)] 92) with drawn := (wo.alloc (.cells #[.int .i64 (m1 : Int), .int .i64 (m2 : Int)] 92)).drawn + 1 } from hWx)
      have TX : Below wo.heap.size wo Wx := by rw [hWx]; exact (ba (b0 wo) _).drew
      have c1 : Wx.cell? ⟨wo.heap.size, 0, none⟩ = some (.int .i64 (m1 : Int)) := by rw [hWx]; exact cell_new (w := wo) rfl rfl
      have c2 : Wx.cell? ⟨wo.heap.size, 1, none⟩ = some (.int .i64 (m2 : Int)) := by rw [hWx]; exact cell_new (w := wo) rfl rfl
      have c3 := cell_later TX h7
      have c4 := cell_later TX k4
      have c5 := cell_later TX dy
      have hownX := own_bs hown TX
      have c6 := own_cell hownX m2 (by rw [ints_length]; exact hl2')
      have c7 := hownX.frozenAt m2
      obtain ⟨u, hu⟩ : ∃ u, u = (copTo xs ys ps k)[m2] := ⟨_, rfl⟩
      obtain ⟨v, hv⟩ : ∃ v, v = ys[m1] := ⟨_, rfl⟩
      have e6 : (ints (copTo xs ys ps k))[m2]'(by rw [ints_length]; exact hl2') = .int .i64 u := by simp [ints, hu]
      rw [e6] at c6
      rw [← hv] at c5
      rw [← hu, ← hv] at HS
      have HST := Lib.hid (show (Wx.setCell ⟨g, m2, none⟩ (.int .i64 (bits .or .i64 u v))).ownsRow W.heap.size 2 1 (.slice (some ⟨g, 0, none⟩) xs.length cg) xs.length (ints (copTo xs ys ps (k + 1))) by
        rw [HS.out, ints_set]
        exact ownsRow_set hownX m2 _)
      have HB := Lib.hid (bset (bs hbw TX) g m2 (.int .i64 (bits .or .i64 u v)) hg)
      have H7 := Lib.hid (set_far (u := .int .i64 (bits .or .i64 u v)) (k := m2) c3 hgne)
      have HZ := Lib.hid (show w2.heap.size < (Wx.setCell ⟨g, m2, none⟩ (.int .i64 (bits .or .i64 u v))).heap.size by have := TX.size; simp [World.setCell]; omega)
      have i1 : (k : Int) < (ps.length : Int) := by omega
      have i2 : (m1 : Int) < (ys.length : Int) := by omega
      have i3 : (m2 : Int) < (xs.length : Int) := by omega
      clear hm1 hm2 hcp hcy hu hv e6 hown hbw h7 dy k4 TX hWx
      go_wp2_with fail
      refine wp_region_still_tail 14 (by kernel_rfl) (by kernel_rfl) ?_
      rw [← HWX.out]
      simp only [List.take_succ_cons, List.take_zero, List.drop_succ_cons, List.drop_zero]
      repeat still_step
      try refine wpStill_nil ?_
      go_wp2
      go_roundw
      case rel =>
        have P : CpR xs ys ps g cg W w2 (Wx.setCell ⟨g, m2, none⟩ (.int .i64 (bits .or .i64 u v))) (.int .i64 ((k : Int) + 1)) := ⟨k + 1, by omega, by go_num, HST.out, HB.out, H7.out, HZ.out⟩
        first | exact P | exact ⟨_, P, rfl⟩ | exact ⟨_, _, P, rfl, rfl⟩ | exact ⟨_, _, _, P, rfl, rfl, rfl⟩ | exact ⟨_, _, _, _, P, rfl, rfl, rfl, rfl⟩ | exact ⟨_, _, _, _, _, P, rfl, rfl, rfl, rfl, rfl⟩ | exact ⟨_, _, _, _, _, _, P, rfl, rfl, rfl, rfl, rfl, rfl⟩ | exact ⟨_, _, _, _, _, _, _, P, rfl, rfl, rfl, rfl, rfl, rfl, rfl⟩ | exact ⟨_, _, _, _, _, _, _, _, P, rfl, rfl, rfl, rfl, rfl, rfl, rfl, rfl⟩
      case measure => simp [intOf]; omega
    · obtain rfl : k = ps.length := by omega
      have q3' := cell_later hbw k3
      have f3' := froz_later hbw f3 (by omega)
      go_wp2
      refine bodyPost_ret (v := .agg #[.slice (some ⟨g, 0, none⟩) xs.length cg]) (by simp [results, Try.results72, go_sem, *]) rfl ⟨_, cg, rfl, ?_, ?_⟩
      · exact own_base (own_below hown _ _ _ (by omega)) T0.size
      · exact bset (bs T0 hbw) _ _ _ (by omega)
/-- Behind k copies, in the reference. -/
def CqR (xs ys : List Int) (ps : List (Int × Int)) (base bT g cg : Nat) (w wr : World) (q : Value) : Prop := ∃ k : Nat, k ≤ ps.length ∧ q = .int .i64 k ∧ wr.ownsRow base 2 1 (.slice (some ⟨g, 0, none⟩) xs.length cg) xs.length (ints (copTo xs ys ps k)) ∧ Below base w wr ∧
    wr.cell? ⟨bT, 0, none⟩ = some (.slice (some ⟨g, 0, none⟩) xs.length cg)

set_option maxRecDepth 20000 in
set_option maxHeartbeats 2000000 in
theorem l10Copy_any (bF bT g cg : Nat) (xs : List Int) (B : Option Addr) (d : Nat) (ys : List Int) (C : Option Addr) (cp : Nat) (ps : List (Int × Int)) (base : Nat) (w : World) (h1 : w.cell? ⟨bF, 0, none⟩ = some (.slice B ys.length d)) (h2 : w.cell? ⟨bT, 0, none⟩ = some (.slice (some ⟨g, 0, none⟩) xs.length cg))
    (hown : w.ownsRow base 2 1 (.slice (some ⟨g, 0, none⟩) xs.length cg) xs.length (ints xs)) (hbF : bF < base) (hgne : ¬ g = bT) (hg : base ≤ g) (hb : Rd w base 1 B ys.length (ints ys)) (hp : Rd w base 2 C ps.length (prs ps))
    (hl : xs.length ≤ 1048576) (hl' : ys.length ≤ 1048576) (hlp : ps.length ≤ 1048576) (hok : copiesOk ps (ys.length : Int) (xs.length : Int) = true) :
    Calls Try.prog 66 #[.pointer (some ⟨bF, 0, none⟩), .pointer (some ⟨bT, 0, none⟩), .slice C ps.length cp] w fun e w' => e = .returned (.tuple #[]) ∧
      w'.ownsRow base 2 1 (.slice (some ⟨g, 0, none⟩) xs.length cg) xs.length (ints (copTo xs ys ps ps.length)) ∧ Below base w w' ∧ w'.cell? ⟨bT, 0, none⟩ = some (.slice (some ⟨g, 0, none⟩) xs.length cg) := by
  have HOK := Lib.hid hok
  clear hok
  go_enter Try.func66, Try.ntmps66
  go_wp2
  go_loopw [6] (fun q wr => CqR xs ys ps base bT g cg w wr q) (fun q _ => ps.length - (intOf q).toNat)
  case atStart => exact ⟨0, Nat.zero_le _, rfl, by rw [copTo_zero]; exact hown, Below.refl _ _, h2⟩
  case round =>
    obtain ⟨wo, rfl⟩ : ∃ wo : World, wo = wr := ⟨_, rfl⟩
    obtain ⟨k, hk, rfl, howk, hbw, h7⟩ := hrel
    by_cases hlt : k < ps.length
    · obtain ⟨m1, m2, hm1, hm2, hlt1, hlt2⟩ := copies_at HOK.out hlt
      have hl1 : m1 < ys.length := by omega
      have hl2 : m2 < xs.length := by omega
      have hl2' : m2 < (copTo xs ys ps k).length := by rw [copTo_length]; exact hl2
      have HS := Lib.hid (copTo_succ hlt hm1 hm2 hl1 hl2')
      obtain ⟨bp, op, rfl, _, hcp⟩ := (hp.below hbw).at_ hlt
      have d1 := hcp _ _ (prs_fst ps k hlt)
      have d2 := hcp _ _ (prs_snd ps k hlt)
      rw [← Nat.add_assoc] at d2
      rw [hm1] at d1
      rw [hm2] at d2
      obtain ⟨by1, oy, rfl, _, hcy⟩ := (hb.below hbw).at_ hl1
      have dy := hcy m1 _ (ints_get ys m1 hl1)
      have k4 := (hbw.cell (p := ⟨bF, 0, none⟩) hbF).trans h1
      obtain ⟨Wx, hWx⟩ : ∃ Wx : World, Wx = wo.drew := ⟨_, rfl⟩
      have HWX := Lib.hid (show Wx = { wo with drawn := wo.drawn + 1 } from hWx)
      have TX : Below wo.heap.size wo Wx := by rw [hWx]; exact (b0 wo).drew
      have c1 := cell_later TX d1
      have c2 := cell_later TX d2
      have c3 := cell_later TX h7
      have c4 := cell_later TX k4
      have c5 := cell_later TX dy
      have hownX := own_bs howk TX
      have c6 := own_cell hownX m2 (by rw [ints_length]; exact hl2')
      have c7 := hownX.frozenAt m2
      obtain ⟨u, hu⟩ : ∃ u, u = (copTo xs ys ps k)[m2] := ⟨_, rfl⟩
      obtain ⟨v, hv⟩ : ∃ v, v = ys[m1] := ⟨_, rfl⟩
      have e6 : (ints (copTo xs ys ps k))[m2]'(by rw [ints_length]; exact hl2') = .int .i64 u := by simp [ints, hu]
      rw [e6] at c6
      rw [← hv] at c5
      rw [← hu, ← hv] at HS
      have HST := Lib.hid (show (Wx.setCell ⟨g, m2, none⟩ (.int .i64 (bits .or .i64 u v))).ownsRow base 2 1 (.slice (some ⟨g, 0, none⟩) xs.length cg) xs.length (ints (copTo xs ys ps (k + 1))) by
        rw [HS.out, ints_set]
        exact ownsRow_set hownX m2 _)
      have HB := Lib.hid (bset (show Below base w Wx by rw [hWx]; exact hbw.drew) g m2 (.int .i64 (bits .or .i64 u v)) hg)
      have H7 := Lib.hid (set_far (u := .int .i64 (bits .or .i64 u v)) (k := m2) c3 hgne)
      have i1 : (k : Int) < (ps.length : Int) := by omega
      have i2 : (m1 : Int) < (ys.length : Int) := by omega
      have i3 : (m2 : Int) < (xs.length : Int) := by omega
      clear hm1 hm2 hcp hcy hu hv e6 howk hbw h7 dy k4 TX hWx d1 d2
      go_wp2_with fail
      refine wp_region_still_tail 24 (by kernel_rfl) (by kernel_rfl) ?_
      rw [← HWX.out]
      simp only [List.take_succ_cons, List.take_zero, List.drop_succ_cons, List.drop_zero]
      repeat still_step
      try refine wpStill_nil ?_
      go_wp2
      go_roundw
      case rel =>
        have P : CqR xs ys ps base bT g cg w (Wx.setCell ⟨g, m2, none⟩ (.int .i64 (bits .or .i64 u v))) (.int .i64 ((k : Int) + 1)) := ⟨k + 1, by omega, by go_num, HST.out, HB.out, H7.out⟩
        first | exact P | exact ⟨_, P, rfl⟩ | exact ⟨_, _, P, rfl, rfl⟩ | exact ⟨_, _, _, P, rfl, rfl, rfl⟩ | exact ⟨_, _, _, _, P, rfl, rfl, rfl, rfl⟩ | exact ⟨_, _, _, _, _, P, rfl, rfl, rfl, rfl, rfl⟩ | exact ⟨_, _, _, _, _, _, P, rfl, rfl, rfl, rfl, rfl, rfl⟩ | exact ⟨_, _, _, _, _, _, _, P, rfl, rfl, rfl, rfl, rfl, rfl, rfl⟩ | exact ⟨_, _, _, _, _, _, _, _, P, rfl, rfl, rfl, rfl, rfl, rfl, rfl, rfl⟩
      case measure => simp [intOf]; omega
    · obtain rfl : k = ps.length := by omega
      go_wp2
      go_end0
      exact ⟨rfl, howk, hbw, h7⟩
end Go.Proofs.Ytoakjfoioijaaaa
