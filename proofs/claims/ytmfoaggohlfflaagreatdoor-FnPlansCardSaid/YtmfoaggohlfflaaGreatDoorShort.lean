/- ShortPlan; in the program and in the reference. -/
import Derived.Test.YtmfoaggohlfflaaGreatDoorKeysAll
import Derived.Test.YtmfoaggohlfflaaGreatDoorIdle
import Derived.Test.YtmfoaggohlfflaaGreatDoorDelPass
namespace Go.Proofs.YtmfoaggohlfflaaGreatDoor
open Go.RowKit

theorem info_passS : (Tryz.prog.info? 76).map (fun i => (i.zero, i.size, i.bytes)) = some (some (.agg #[.int .i64 0, .int .i64 0]), 2, 16) := by kernel_rfl
def idleP (L : List (List Int)) (p : Int × Int) : Bool := idleB L p.1.toNat p.2
theorem planOf_at {b : Int} {n : Nat} {p : Int × Int} (h : p ∈ planOf b n) : b - (n : Int) ≤ p.1 ∧ p.1 < b := by
  unfold planOf at h
  obtain ⟨i, hi, hp⟩ := List.mem_flatMap.1 h
  have := List.mem_range.1 hi
  simp at hp
  rcases hp with rfl | rfl <;> simp only <;> omega
def shortRes (L : List (List Int)) (a b : Int) : List (Int × Int) := if codeK L a b = 0 then keep (idleP L) (planOf b (b - a).toNat) else []
theorem shortRes_0 {L : List (List Int)} {a b : Int} (h : codeK L a b = 0) : shortRes L a b = keep (idleP L) (planOf b (b - a).toNat) := by unfold shortRes; rw [if_pos h]
theorem shortRes_1 {L : List (List Int)} {a b : Int} (h : codeK L a b ≠ 0) : shortRes L a b = [] := by unfold shortRes; rw [if_neg h]
theorem shortRes_len (L : List (List Int)) (a b : Int) : (shortRes L a b).length ≤ 40 := by
  by_cases h : codeK L a b = 0
  · rw [shortRes_0 h]
    obtain ⟨h1, h2, -⟩ := codeK_zero h
    have h3 := fieldOk_true h2
    have h4 := deckOk_wid h1
    have h5 : (keep (idleP L) (planOf b (b - a).toNat)).length ≤ (planOf b (b - a).toNat).length := by unfold keep; exact List.length_filter_le _ _
    rw [planOf_length] at h5
    omega
  · rw [shortRes_1 h]; simp
theorem pass_nat {b a : Int} {p : Int × Int} {W : Nat} (h : p ∈ planOf b (b - a).toNat) (h0 : 0 ≤ a) (h1 : a < b) (h2 : b ≤ (W : Int)) : ∃ i : Nat, p.1 = (i : Int) ∧ i < W := by
  have := planOf_at h
  exact ⟨p.1.toNat, by omega, by omega⟩

theorem ShortPlan1_any (bd : Nat) (D : Option Addr) (c : Nat) (hs : List Hd) (p : Int × Int) (w : World) (hd : w.cell? ⟨bd, 0, none⟩ = some (.slice D hs.length c)) (ha : RdD w w.heap.size D hs) (hok : deckOk (cards hs) = true) (hp : ∃ i : Nat, p.1 = (i : Int) ∧ i < deckW (cards hs)) (hl : hs.length ≤ 1048576) :
    Calls Tryz.prog 45 #[.agg #[.int .i64 p.1, .int .i64 p.2], .pointer (some ⟨bd, 0, none⟩)] w fun e w' => e = .returned (.bool (idleP (cards hs) p)) ∧ Below w.heap.size w w' := by
  obtain ⟨i, hi, hiw⟩ := hp
  have HI := Lib.hid (show idleP (cards hs) p = idleB (cards hs) i p.2 by unfold idleP; rw [hi]; rfl)
  rw [hi]
  have k1 := cell_alloc hd (.cells #[.int .i64 (i : Int), .int .i64 p.2] 76)
  have ra := ha.a1 (.cells #[.int .i64 (i : Int), .int .i64 p.2] 76)
  clear hd ha hi
  go_enter Tryz.func45, Tryz.ntmps45
  go_wp2_with fail
  refine (isIdle_any D c hs i p.2 _ ra hok hiw hl).mono ?_; rintro e w1 ⟨rfl, hb1⟩
  go_wp2
  go_ret
  exact ⟨ret_bool HI.out.symm, bs (ba (b0 _) _) hb1⟩

set_option maxHeartbeats 2000000 in
theorem ShortPlan_any (D : Option Addr) (c : Nat) (hs : List Hd) (L : List (List Int)) (a b : Int) (w : World) (ha : RdD w w.heap.size D hs) (hL : cards hs = L) (hl : hs.length + tot hs ≤ 1048576) (_hc : hs.length ≤ c) :
    Calls Tryz.prog 11 #[.slice D hs.length c, .agg #[.int .i64 a, .int .i64 b]] w fun e w' => ∃ A cp, e = .returned (.tuple #[.slice A (shortRes L a b).length cp, .int .i64 (codeK L a b)]) ∧
      w'.ownsRow w.heap.size 76 2 (.slice A (shortRes L a b).length cp) (shortRes L a b).length (prs (shortRes L a b)) ∧ Below w.heap.size w w' := by
  subst hL
  have T0 : Below w.heap.size w ((w.alloc (.cells #[.slice D hs.length c] 24)).alloc (.cells #[.int .i64 a, .int .i64 b] 27)) := ba (ba (b0 w) _) _
  have ra := (ha.a1 (.cells #[.slice D hs.length c] 24)).a1 (.cells #[.int .i64 a, .int .i64 b] 27)
  by_cases hz : codeK (cards hs) a b = 0
  · obtain ⟨h1, h2, h3⟩ := codeK_zero hz
    have hf := fieldOk_true h2
    have hw := deckOk_wid h1
    have hpl : (planOf b (b - a).toNat).length ≤ 40 := by rw [planOf_length]; omega
    have HZ := Lib.hid hz
    have H1 := Lib.hid h1
    have HR := Lib.hid (shortRes_0 hz)
    clear hz h1 h2 h3
    go_enter Tryz.func11, Tryz.ntmps11
    go_wp2_with fail
    refine (sortCode_any _ _ hs _ _ _ ra hl).mono ?_; rintro e w1 ⟨rfl, hb1⟩
    have k1 : w1.cell? ⟨w.heap.size, 0, none⟩ = some (.slice D hs.length c) := cell_later hb1 (cell_alloc (cell_new rfl rfl) _)
    have k2 : w1.cell? ⟨w.heap.size + 1, 0, none⟩ = some (.int .i64 a) := cell_later hb1 (cell_new (by simp) rfl)
    have k3 : w1.cell? ⟨w.heap.size + 1, 1, none⟩ = some (.int .i64 b) := cell_later hb1 (cell_new (by simp) rfl)
    have e0 : codeK (cards hs) a b = 0 := HZ.out
    have T1 := bs T0 hb1
    have r1 := ra.up hb1
    go_wp2_with fail
    refine (fullPlan_any a b _ hf.1 hf.2.1 (by omega)).mono ?_; rintro e w2 ⟨A, cp, rfl, ho, hb2⟩
    clear e0
    have hz2 := hb2.size
    go_wp2_with fail
    refine (DeleteFuncPass_any A cp w1.heap.size (planOf b (b - a).toNat) 45 #[.pointer (some ⟨w.heap.size, 0, none⟩)] (idleP (cards hs)) _ ho hz2 (by omega) Tryz.call45 (fun p hp w' hbk => ShortPlan1_any _ D c hs p w' (cell_later (hb2.trans hbk) k1) (r1.up (hb2.trans hbk)) H1.out (pass_nat hp hf.1 hf.2.1 hf.2.2) (by omega))).mono ?_; rintro e w3 ⟨rfl, ho3, hb3⟩
    go_wp2
    go_ret2
    refine ⟨A, cp, ret_kk HZ.out.symm (by rw [HR.out]), ?_, bs T1 (hb2.trans hb3)⟩
    rw [HR.out]
    exact own_base ho3 T1.size
  · have HR := Lib.hid (shortRes_1 hz)
    go_enter Tryz.func11, Tryz.ntmps11
    go_wp2_with fail
    refine (sortCode_any _ _ hs _ _ _ ra hl).mono ?_; rintro e w1 ⟨rfl, hb1⟩
    go_wp2
    go_ret2
    refine ⟨none, 0, ret_kk rfl (by rw [HR.out]; rfl), ?_, bs T0 hb1⟩
    rw [HR.out]
    exact World.ownsRow_nil _ _ _ _

/-- Behind k passes. -/
def ShR (L : List (List Int)) (al : List (Int × Int)) (w wr : World) (o q : Value) : Prop := ∃ (k n : Nat) (G : Option Addr) (cg : Nat), k ≤ al.length ∧ q = .int .i64 k ∧ o = .slice G n cg ∧ n = (keep (idleP L) (al.take k)).length ∧
  wr.ownsRow w.heap.size 76 2 (.slice G n cg) n (prs (keep (idleP L) (al.take k))) ∧ Below w.heap.size w wr
end Go.Proofs.YtmfoaggohlfflaaGreatDoor
