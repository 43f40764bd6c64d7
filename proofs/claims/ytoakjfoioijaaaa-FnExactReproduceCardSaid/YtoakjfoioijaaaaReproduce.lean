/- ReproduceCard; in the program and in the reference. -/
import Derived.Test.YtoakjfoioijaaaaCopied
namespace Go.Proofs.Ytoakjfoioijaaaa
open Go.RowKit

def rpdC (xs : List Int) (ps : List (Int × Int)) (n : Int) : Int := if cardOk xs = true then (if validB ps (xs.length : Int) n = true then 0 else 2) else 1
def rpdR (xs : List Int) (ps : List (Int × Int)) (n : Int) : List Int := if rpdC xs ps n = 0 then copTo (List.replicate n.toNat 0) xs ps ps.length else []
theorem rpdC_0 {xs : List Int} {ps : List (Int × Int)} {n : Int} (h : cardOk xs = true) (h2 : validB ps (xs.length : Int) n = true) : rpdC xs ps n = 0 := by unfold rpdC; rw [if_pos h, if_pos h2]
theorem rpdC_2 {xs : List Int} {ps : List (Int × Int)} {n : Int} (h : cardOk xs = true) (h2 : validB ps (xs.length : Int) n = false) : rpdC xs ps n = 2 := by unfold rpdC; rw [if_pos h, if_neg (by rw [h2]; decide)]
theorem rpdC_1 {xs : List Int} {ps : List (Int × Int)} {n : Int} (h : cardOk xs = false) : rpdC xs ps n = 1 := by unfold rpdC; rw [if_neg (by rw [h]; decide)]
theorem rpdR_0 {xs : List Int} {ps : List (Int × Int)} {m : Nat} (h : rpdC xs ps (m : Int) = 0) : rpdR xs ps (m : Int) = copTo (List.replicate m 0) xs ps ps.length := by unfold rpdR; rw [if_pos h]; rfl
theorem rpdR_1 {xs : List Int} {ps : List (Int × Int)} {n : Int} (h : rpdC xs ps n ≠ 0) : rpdR xs ps n = [] := by unfold rpdR; rw [if_neg h]
theorem validB_nat {ps : List (Int × Int)} {f n : Int} (h : validB ps f n = true) : ∃ m : Nat, n = (m : Int) ∧ 1 ≤ m ∧ m ≤ 20 ∧ copiesOk ps f (m : Int) = true := by
  simp only [validB, Bool.and_eq_true] at h
  have h1 := insideB_true h.2.1
  refine ⟨n.toNat, by omega, by omega, by omega, ?_⟩
  rw [show ((n.toNat : Nat) : Int) = n by omega]
  exact h.2.2
theorem rpdR_length (xs : List Int) (ps : List (Int × Int)) (n : Int) : (rpdR xs ps n).length ≤ 20 := by
  by_cases h : rpdC xs ps n = 0
  · unfold rpdR
    rw [if_pos h, copTo_length, List.length_replicate]
    unfold rpdC at h
    split at h
    · split at h
      · rename_i h2
        obtain ⟨m, rfl, _, hm, _⟩ := validB_nat h2
        simpa using hm
      · omega
    · omega
  · rw [rpdR_1 h]
    simp
theorem copied_n (n : Nat) (A : Option Addr) (c : Nat) (xs : List Int) (B : Option Addr) (d : Nat) (ys : List Int) (C : Option Addr) (cp : Nat) (ps : List (Int × Int)) (w : World) (hn : xs.length = n) (ha : Rd w w.heap.size 1 A n (ints xs)) (hb : Rd w w.heap.size 1 B ys.length (ints ys)) (hp : Rd w w.heap.size 2 C ps.length (prs ps))
    (hl : n ≤ 1048576) (hl' : ys.length ≤ 1048576) (hlp : ps.length ≤ 1048576) (hx : 0 < n) (hok : copiesOk ps (ys.length : Int) (n : Int) = true) :
    Calls Try.prog 72 #[.agg #[.slice A n c], .agg #[.slice B ys.length d], .slice C ps.length cp] w fun e w' => ∃ G cg, e = .returned (.agg #[.slice G n cg]) ∧
      w'.ownsRow w.heap.size 2 1 (.slice G n cg) n (ints (copTo xs ys ps ps.length)) ∧ Below w.heap.size w w' := by
  subst hn
  exact copied_any A c xs B d ys C cp ps w ha hb hp hl hl' hlp hx hok
theorem l10Copy_n (n bF bT g cg : Nat) (xs : List Int) (B : Option Addr) (d : Nat) (ys : List Int) (C : Option Addr) (cp : Nat) (ps : List (Int × Int)) (base : Nat) (w : World) (hn : xs.length = n) (h1 : w.cell? ⟨bF, 0, none⟩ = some (.slice B ys.length d)) (h2 : w.cell? ⟨bT, 0, none⟩ = some (.slice (some ⟨g, 0, none⟩) n cg))
    (hown : w.ownsRow base 2 1 (.slice (some ⟨g, 0, none⟩) n cg) n (ints xs)) (hbF : bF < base) (hgne : ¬ g = bT) (hg : base ≤ g) (hb : Rd w base 1 B ys.length (ints ys)) (hp : Rd w base 2 C ps.length (prs ps))
    (hl : n ≤ 1048576) (hl' : ys.length ≤ 1048576) (hlp : ps.length ≤ 1048576) (hok : copiesOk ps (ys.length : Int) (n : Int) = true) :
    Calls Try.prog 66 #[.pointer (some ⟨bF, 0, none⟩), .pointer (some ⟨bT, 0, none⟩), .slice C ps.length cp] w fun e w' => e = .returned (.tuple #[]) ∧
      w'.ownsRow base 2 1 (.slice (some ⟨g, 0, none⟩) n cg) n (ints (copTo xs ys ps ps.length)) ∧ Below base w w' ∧ w'.cell? ⟨bT, 0, none⟩ = some (.slice (some ⟨g, 0, none⟩) n cg) := by
  subst hn
  exact l10Copy_any bF bT g cg xs B d ys C cp ps base w h1 h2 hown hbF hgne hg hb hp hl hl' hlp hok

set_option maxRecDepth 20000 in
set_option maxHeartbeats 4000000 in
theorem ReproduceCard_any (A : Option Addr) (c : Nat) (xs : List Int) (C : Option Addr) (cp : Nat) (ps : List (Int × Int)) (n : Int) (w : World) (ha : Rd w w.heap.size 1 A xs.length (ints xs)) (hl : xs.length ≤ 1048576) (_hc : xs.length ≤ c) (hp : Rd w w.heap.size 2 C ps.length (prs ps)) (hlp : ps.length ≤ 1048576) :
    Calls Try.prog 19 #[.agg #[.slice A xs.length c], .slice C ps.length cp, .int .i64 n] w fun e w' => ∃ B d, e = .returned (.tuple #[.agg #[.slice B (rpdR xs ps n).length d], .int .i64 (rpdC xs ps n)]) ∧
      w'.ownsRow w.heap.size 2 1 (.slice B (rpdR xs ps n).length d) (rpdR xs ps n).length (ints (rpdR xs ps n)) ∧ Below w.heap.size w w' := by
  obtain ⟨W, hW⟩ : ∃ W, W = (w.alloc (.cells #[.slice A xs.length c] 28)).alloc (.cells #[.slice none 0 0] 28) := ⟨_, rfl⟩
  have T0 : Below w.heap.size w W := by rw [hW]; exact ba (ba (b0 w) _) _
  have ra : Rd W W.heap.size 1 A xs.length (ints xs) := by rw [hW]; exact (ha.a1 _).a1 _
  have rp : Rd W W.heap.size 2 C ps.length (prs ps) := by rw [hW]; exact (hp.a1 _).a1 _
  have k1 : W.cell? ⟨w.heap.size, 0, none⟩ = some (.slice A xs.length c) := by rw [hW]; exact cell_alloc (cell_new rfl rfl) _
  have k2 : W.cell? ⟨w.heap.size + 1, 0, none⟩ = some (.slice none 0 0) := by rw [hW]; exact cell_new (by simp) rfl
  have f2 : W.frozen? ⟨w.heap.size + 1, 0, none⟩ = false := by rw [hW]; exact froz_new (by simp)
  have z0 : W.heap.size = w.heap.size + 1 + 1 := by rw [hW]; simp
  have HW := Lib.hid hW
  clear hW ha hp
  rcases Bool.eq_false_or_eq_true (cardOk xs) with hv | hv
  · rcases Bool.eq_false_or_eq_true (validB ps (xs.length : Int) n) with hw | hw
    · have HC := Lib.hid (rpdC_0 hv hw)
      obtain ⟨m, rfl, hm1, hm20, hok⟩ := validB_nat hw
      have HR := Lib.hid (rpdR_0 HC.out)
      have HRL := Lib.hid (show (rpdR xs ps (m : Int)).length = m by rw [HR.out, copTo_length, List.length_replicate])
      have HOK := Lib.hid hok
      have HV := Lib.hid hv
      have HV2 := Lib.hid hw
      have HZL := Lib.hid (show (List.replicate m (0 : Int)).length = m from List.length_replicate)
      clear hv hw hok
      go_enter Try.func19, Try.ntmps19
      go_wp2_with fail
      rw [← HW.out]
      refine (ValidCard_any _ _ _ _ ra hl).mono ?_; rw [HV.out]; rintro e w1 ⟨rfl, hb1⟩
      have q1 := cell_later hb1 k1
      go_wp2_with fail
      refine (columns_any _ _ _ _ hl).mono ?_; rintro e w2 ⟨rfl, hb2⟩
      have q2 := cell_later hb2 q1
      have T2 := bs hb1 hb2
      go_wp2_with fail
      refine (ValidCopies_any _ _ ps _ _ _ (rp.up T2) hlp).mono ?_; rw [HV2.out]; rintro e w3 ⟨rfl, hb3⟩
      have q3 := cell_later hb3 q2
      have T3 := bs T2 hb3
      have p3 := cell_later T3 k2
      have f3 := froz_later T3 f2 (by omega)
      have ra3 := ra.up T3
      have rp3 := rp.up T3
      have T03 := bs T0 T3
      have z3 := T3.size
      clear q1 q2 hb1 hb2 hb3 T2 T3 k1 k2 f2 ra rp
      go_wp2_with fail
      go_region_held3 (fun w' => w'.cell? ⟨w.heap.size, 0, none⟩ = some (.slice A xs.length c)) (first | exact q3 | go_keep)
        (first
          | (go_at_call 73; refine (blank_any m _ ?_).mono ?_; (omega); rintro e w4 ⟨Z, rfl, ho4, hb4⟩; have hb4 : Below w3.heap.size w3 w4 := ⟨hb4.os, hb4.tape, hb4.output, hb4.size, hb4.block⟩; replace q3 := cell_later hb4 q3; replace p3 := cell_later hb4 p3; replace f3 := froz_later hb4 f3 (by omega); replace ra3 := ra3.up hb4; replace rp3 := rp3.up hb4)
          | (go_at_call 72; refine (copied_n m _ _ (List.replicate m 0) _ _ xs _ _ ps _ HZL.out ?_ ?_ ?_ ?_ hl hlp ?_ HOK.out).mono ?_; (exact Rd.own ho4); (exact ra3); (exact rp3); (omega); (omega); rintro e w5 ⟨G, cg, rfl, ho5, hb5⟩; have hb5 : Below w4.heap.size w4 w5 := ⟨hb5.os, hb5.tape, hb5.output, hb5.size, hb5.block⟩; replace q3 := cell_later hb5 q3; replace p3 := cell_later hb5 p3; replace f3 := froz_later hb5 f3 (by have := hb4.size; omega)))
      go_wp2
      refine bodyPost_ret (v := .tuple #[.agg #[.slice G m cg], .int .i64 0]) (by simp [results, Try.results19, go_sem, *]) rfl ?_
      rw [HRL.out, HC.out, HR.out]
      have hz4 := hb4.size
      exact ⟨G, cg, rfl, own_base (own_below ho5 _ _ _ (by omega)) (by omega), bset (bs (bs T03 hb4) hb5) _ _ _ (by omega)⟩
    · have HC := Lib.hid (rpdC_2 hv hw)
      have HR := Lib.hid (rpdR_1 (xs := xs) (ps := ps) (n := n) (by rw [HC.out]; decide))
      have HV := Lib.hid hv
      have HV2 := Lib.hid hw
      clear hv hw
      go_enter Try.func19, Try.ntmps19
      go_wp2_with fail
      rw [← HW.out]
      refine (ValidCard_any _ _ _ _ ra hl).mono ?_; rw [HV.out]; rintro e w1 ⟨rfl, hb1⟩
      have q1 := cell_later hb1 k1
      go_wp2_with fail
      refine (columns_any _ _ _ _ hl).mono ?_; rintro e w2 ⟨rfl, hb2⟩
      have T2 := bs hb1 hb2
      go_wp2_with fail
      refine (ValidCopies_any _ _ ps _ _ _ (rp.up T2) hlp).mono ?_; rw [HV2.out]; rintro e w3 ⟨rfl, hb3⟩
      have T3 := bs T2 hb3
      have p3 := cell_later T3 k2
      have f3 := froz_later T3 f2 (by omega)
      go_wp2
      refine bodyPost_ret (v := .tuple #[.agg #[.slice none 0 0], .int .i64 2]) (by simp [results, Try.results19, go_sem, *]) rfl ?_
      rw [HR.out, HC.out]
      exact ⟨none, 0, rfl, World.ownsRow_nil _ _ _ _, bset (bs T0 T3) _ _ _ (by omega)⟩
  · have HC := Lib.hid (rpdC_1 (ps := ps) (n := n) hv)
    have HR := Lib.hid (rpdR_1 (xs := xs) (ps := ps) (n := n) (by rw [HC.out]; decide))
    have HV := Lib.hid hv
    clear hv
    go_enter Try.func19, Try.ntmps19
    go_wp2_with fail
    rw [← HW.out]
    refine (ValidCard_any _ _ _ _ ra hl).mono ?_; rw [HV.out]; rintro e w1 ⟨rfl, hb1⟩
    have p3 := cell_later hb1 k2
    have f3 := froz_later hb1 f2 (by omega)
    go_wp2
    refine bodyPost_ret (v := .tuple #[.agg #[.slice none 0 0], .int .i64 1]) (by simp [results, Try.results19, go_sem, *]) rfl ?_
    rw [HR.out, HC.out]
    exact ⟨none, 0, rfl, World.ownsRow_nil _ _ _ _, bset (bs T0 hb1) _ _ _ (by omega)⟩

set_option maxRecDepth 20000 in
set_option maxHeartbeats 4000000 in
theorem spReproduceCard_any (A : Option Addr) (c : Nat) (xs : List Int) (C : Option Addr) (cp : Nat) (ps : List (Int × Int)) (n : Int) (w : World) (ha : Rd w w.heap.size 1 A xs.length (ints xs)) (hl : xs.length ≤ 1048576) (_hc : xs.length ≤ c) (hp : Rd w w.heap.size 2 C ps.length (prs ps)) (hlp : ps.length ≤ 1048576) :
    Calls Try.prog 16 #[.agg #[.slice A xs.length c], .slice C ps.length cp, .int .i64 n] w fun e w' => ∃ B d, e = .returned (.tuple #[.agg #[.slice B (rpdR xs ps n).length d], .int .i64 (rpdC xs ps n)]) ∧
      w'.ownsRow w.heap.size 2 1 (.slice B (rpdR xs ps n).length d) (rpdR xs ps n).length (ints (rpdR xs ps n)) ∧ Below w.heap.size w w' := by
  obtain ⟨i0, hi, hz0, hz1, hz2⟩ := info_parts info_i64
  obtain ⟨W, hW⟩ : ∃ W, W = (w.alloc (.cells #[.slice A xs.length c] 28)).alloc (.cells #[.slice none 0 0] 28) := ⟨_, rfl⟩
  have T0 : Below w.heap.size w W := by rw [hW]; exact ba (ba (b0 w) _) _
  have ra : Rd W W.heap.size 1 A xs.length (ints xs) := by rw [hW]; exact (ha.a1 _).a1 _
  have rp : Rd W W.heap.size 2 C ps.length (prs ps) := by rw [hW]; exact (hp.a1 _).a1 _
  have k1 : W.cell? ⟨w.heap.size, 0, none⟩ = some (.slice A xs.length c) := by rw [hW]; exact cell_alloc (cell_new rfl rfl) _
  have k2 : W.cell? ⟨w.heap.size + 1, 0, none⟩ = some (.slice none 0 0) := by rw [hW]; exact cell_new (by simp) rfl
  have f2 : W.frozen? ⟨w.heap.size + 1, 0, none⟩ = false := by rw [hW]; exact froz_new (by simp)
  have z0 : W.heap.size = w.heap.size + 1 + 1 := by rw [hW]; simp
  have HW := Lib.hid hW
  clear hW ha hp
  rcases Bool.eq_false_or_eq_true (cardOk xs) with hv | hv
  · rcases Bool.eq_false_or_eq_true (validB ps (xs.length : Int) n) with hw | hw
    · have HC := Lib.hid (rpdC_0 hv hw)
      obtain ⟨m, rfl, hm1, hm20, hok⟩ := validB_nat hw
      have HR := Lib.hid (rpdR_0 HC.out)
      have HRL := Lib.hid (show (rpdR xs ps (m : Int)).length = m by rw [HR.out, copTo_length, List.length_replicate])
      have HOK := Lib.hid hok
      have HV := Lib.hid hv
      have HV2 := Lib.hid hw
      have HZL := Lib.hid (show (List.replicate m (0 : Int)).length = m from List.length_replicate)
      clear hv hw hok
      go_enter Try.func16, Try.ntmps16
      go_wp2_with fail
      rw [← HW.out]
      refine (l02Ok_any _ _ A c xs _ k1 ra hl).mono ?_; rw [HV.out]; rintro e w1 ⟨rfl, hb1⟩
      have q1 := cell_later hb1 k1
      go_wp2_with fail
      refine (spValidCopies_any _ _ ps _ _ _ (rp.up hb1) hlp).mono ?_; rw [HV2.out]; rintro e w3 ⟨rfl, hb3⟩
      have T3 := bs hb1 hb3
      have q3 := cell_later T3 k1
      have p3 := cell_later T3 k2
      have f3 := froz_later T3 f2 (by omega)
      have ra3 := ra.up T3
      have rp3 := rp.up T3
      have T03 := bs T0 T3
      have z3 := T3.size
      have HF3 := Lib.hid f3
      have HP3 := Lib.hid p3
      clear q1 hb1 hb3 T3 k1 k2 f2 ra rp f3 p3
      go_wp2_with (at_make; refine wpList_make_full _ rfl _ _ 22 rfl w3.heap.size 2 i0 (.int .i64 0) 1 Try.underlying22 hi hz0 hz1 _ _ _ _ m rfl rfl rfl rfl (by rw [hz2]; omega) (by unfold maxLen; omega) (by simp) ?_; intro w4 hown4 hgrow4)
      rw [zeros_ints] at hown4
      have TB4 : Below w3.heap.size w3 w4 := (b0 w3).grown hgrow4 (by simp) (by simp)
      obtain ⟨g, hg0, hg1, hg2⟩ := own_at hown4 (show 0 < m by omega)
      have hgg : w3.heap.size = g := by
        injection hg0 with h1
        injection h1
      subst hgg
      have TB5 : Below w3.heap.size w3 (w4.alloc (.cells #[.slice (some ⟨w3.heap.size, 0, none⟩) m m] 28)) := ba TB4 _
      have ho5 := hown4.alloc (.cells #[.slice (some ⟨w3.heap.size, 0, none⟩) m m] 28)
      have c5 : World.cell? (w4.alloc (.cells #[.slice (some ⟨w3.heap.size, 0, none⟩) m m] 28)) ⟨w4.heap.size, 0, none⟩ = some (.slice (some ⟨w3.heap.size, 0, none⟩) m m) := cell_new rfl rfl
      refine (l10Copy_n m w.heap.size w4.heap.size w3.heap.size m (List.replicate m 0) A c xs C cp ps w3.heap.size _ HZL.out (cell_later TB5 q3) c5 ho5 (by omega) (by omega) (Nat.le_refl _) (ra3.below TB5) (rp3.below TB5) (by omega) hl hlp HOK.out).mono ?_; rintro e w6 ⟨rfl, ho6, hb6, c6⟩
      have T36 := TB5.trans hb6
      have p6 := cell_later T36 HP3.out
      have f6 := froz_later T36 HF3.out (by omega)
      clear hown4 hgrow4 TB4 TB5 ho5 c5 hb6
      go_wp2
      refine bodyPost_ret (v := .tuple #[.agg #[.slice (some ⟨w3.heap.size, 0, none⟩) m m], .int .i64 0]) (by simp [results, Try.results16, go_sem, *]) rfl ?_
      rw [HRL.out, HC.out, HR.out]
      exact ⟨_, m, rfl, own_base (own_below ho6 _ _ _ (by omega)) (by omega), bset (bs T03 T36) _ _ _ (by omega)⟩
    · have HC := Lib.hid (rpdC_2 hv hw)
      have HR := Lib.hid (rpdR_1 (xs := xs) (ps := ps) (n := n) (by rw [HC.out]; decide))
      have HV := Lib.hid hv
      have HV2 := Lib.hid hw
      clear hv hw
      go_enter Try.func16, Try.ntmps16
      go_wp2_with fail
      rw [← HW.out]
      refine (l02Ok_any _ _ A c xs _ k1 ra hl).mono ?_; rw [HV.out]; rintro e w1 ⟨rfl, hb1⟩
      have q1 := cell_later hb1 k1
      go_wp2_with fail
      refine (spValidCopies_any _ _ ps _ _ _ (rp.up hb1) hlp).mono ?_; rw [HV2.out]; rintro e w3 ⟨rfl, hb3⟩
      have T3 := bs hb1 hb3
      have p3 := cell_later T3 k2
      have f3 := froz_later T3 f2 (by omega)
      go_wp2
      refine bodyPost_ret (v := .tuple #[.agg #[.slice none 0 0], .int .i64 2]) (by simp [results, Try.results16, go_sem, *]) rfl ?_
      rw [HR.out, HC.out]
      exact ⟨none, 0, rfl, World.ownsRow_nil _ _ _ _, bset (bs T0 T3) _ _ _ (by omega)⟩
  · have HC := Lib.hid (rpdC_1 (ps := ps) (n := n) hv)
    have HR := Lib.hid (rpdR_1 (xs := xs) (ps := ps) (n := n) (by rw [HC.out]; decide))
    have HV := Lib.hid hv
    clear hv
    go_enter Try.func16, Try.ntmps16
    go_wp2_with fail
    rw [← HW.out]
    refine (l02Ok_any _ _ A c xs _ k1 ra hl).mono ?_; rw [HV.out]; rintro e w1 ⟨rfl, hb1⟩
    have p3 := cell_later hb1 k2
    have f3 := froz_later hb1 f2 (by omega)
    go_wp2
    refine bodyPost_ret (v := .tuple #[.agg #[.slice none 0 0], .int .i64 1]) (by simp [results, Try.results16, go_sem, *]) rfl ?_
    rw [HR.out, HC.out]
    exact ⟨none, 0, rfl, World.ownsRow_nil _ _ _ _, bset (bs T0 hb1) _ _ _ (by omega)⟩
end Go.Proofs.Ytoakjfoioijaaaa
