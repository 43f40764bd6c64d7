/- Comparing fields with texts, the codes of texts; in the program and in the reference. -/
import Derived.Test.YtabdlbaonjhnnaaText
namespace Go.Proofs.Ytabdlbaonjhnnaa
open Go.RowKit

theorem field_card (G : Option Addr) (n c : Nat) (w : World) : (Instr.field 62 (.agg #[.slice G n c]) 0).run Try.prog w = .ok (.slice G n c) w := by kernel_rfl
set_option maxRecDepth 100000 in
set_option maxHeartbeats 4000000 in
theorem compareText_any (A : Option Addr) (c : Nat) (xs : List Int) (s : ByteArray) (i j : Nat) (z : Int) (w : World) (hz : z = cmpT (textL (part xs (i : Int) (j : Int))) (byt s)) (ha : Rd w w.heap.size 1 A xs.length (ints xs)) (hij : i < j) (hj : j ≤ xs.length) (hc : xs.length ≤ c) (hl : xs.length ≤ 1048576)
    (hlx : legalL (part xs (i : Int) (j : Int)) = true) (hs : s.size = j - i) (hch : chaB s = true) :
    Calls Try.prog 78 #[.agg #[.slice A xs.length c], .agg #[.int .i64 (i : Int), .int .i64 (j : Int)], .string s] w fun e w' => e = .returned (.int .i64 z) ∧ Below w.heap.size w w' := by
  obtain ⟨b1, o1, rfl, _, _⟩ := ha.at_ (show 0 < xs.length by omega)
  have T0 : Below w.heap.size w ((w.alloc (.cells #[.slice (some ⟨b1, o1, none⟩) xs.length c] 62)).alloc (.cells #[.int .i64 (i : Int), .int .i64 (j : Int)] 30)) := ba (ba (b0 w) _) _
  have ra := (ha.a1 (.cells #[.slice (some ⟨b1, o1, none⟩) xs.length c] 62)).a1 (.cells #[.int .i64 (i : Int), .int .i64 (j : Int)] 30)
  obtain ⟨W, hW⟩ : ∃ W, W = (w.alloc (.cells #[.slice (some ⟨b1, o1, none⟩) xs.length c] 62)).alloc (.cells #[.int .i64 (i : Int), .int .i64 (j : Int)] 30) := ⟨_, rfl⟩
  have k1 : W.cell? ⟨w.heap.size, 0, none⟩ = some (.slice (some ⟨b1, o1, none⟩) xs.length c) := by rw [hW]; exact cell_alloc (cell_new rfl rfl) _
  have k3 : W.cell? ⟨w.heap.size + 1, 0, none⟩ = some (.int .i64 (i : Int)) := by rw [hW]; exact cell_new (by simp) rfl
  have k4 : W.cell? ⟨w.heap.size + 1, 1, none⟩ = some (.int .i64 (j : Int)) := by rw [hW]; exact cell_new (by simp) rfl
  rw [← hW] at ra T0
  have pa := rd_part ra hij hj
  have HPA := Lib.hid (part_len hij hj)
  have HPU := Lib.hid (show (punL s).length = j - i by rw [punL_length, hs])
  have HZ := Lib.hid (show z = cmpR (part xs (i : Int) (j : Int)) (punL s) by rw [hz, cmp_text hlx hch])
  have HS := Lib.hid hs
  have HCH := Lib.hid hch
  have HW := Lib.hid hW
  have ci : ¬ c = i := by omega
  have i1 : (i : Int) ≤ (j : Int) := by omega
  have i2 : (j : Int) ≤ (c : Int) := by omega
  have hji : 0 < j - i := by omega
  have hjl : j - i ≤ 1048576 := by omega
  have hw1 : IntKind.i64.wrap ((j : Int) - (i : Int)) = ((j - i : Nat) : Int) := by rw [IntWalk.i64_in _ (by omega)]; omega
  have hfd := field_card
  clear hW hz hs hch hlx ra ha
  go_enter Try.func78, Try.ntmps78
  go_wp2_with fail
  rw [← HW.out]
  go_region_held3 (fun w' => w'.cell? ⟨w.heap.size, 0, none⟩ = some (.slice (some ⟨b1, o1, none⟩) xs.length c) ∧ w'.cell? ⟨w.heap.size + 1, 0, none⟩ = some (.int .i64 (i : Int)) ∧ w'.cell? ⟨w.heap.size + 1, 1, none⟩ = some (.int .i64 (j : Int))) (first | exact ⟨k1, k3, k4⟩ | go_keep)
    (first
      | (go_at_call 136; refine (punchText_any s (j - i) _ HS.out hji hjl HCH.out).mono ?_; rintro e w4 ⟨G, rfl, ho, hb4⟩; have hb4 : Below W.heap.size W w4 := ⟨hb4.os, hb4.tape, hb4.output, hb4.size, hb4.block⟩; replace k1 := cell_later hb4 k1; replace k3 := cell_later hb4 k3; replace k4 := cell_later hb4 k4; have T4 := bs T0 hb4; have pb := Rd.own ho; have pa4 := pa.up hb4; clear hb4 T0)
      | (go_at_call 135; refine (compareHoles_q (j - i) _ _ _ _ (part xs (i : Int) (j : Int)) (punL s) z _ HZ.out HPA.out HPU.out ?_ ?_ hjl).mono ?_; (first | exact pa4 | exact pa4.drew); (first | exact pb | exact pb.drew); rintro e w5 ⟨rfl, hb5⟩; have hb5 : Below w4.heap.size w4 w5 := ⟨hb5.os, hb5.tape, hb5.output, hb5.size, hb5.block⟩; replace k1 := cell_later hb5 k1; replace k3 := cell_later hb5 k3; replace k4 := cell_later hb5 k4; have T5 := bs T4 hb5; clear hb5 T4))
  clear hw1
  go_wp2
  go_ret
  exact ⟨rfl, T5⟩

/-- The code of a text for a field. -/
def texC (t : ByteArray) (a b : Int) : Int := if lenB a b t = true then (if chaB t = true then 0 else 7) else 2
theorem texC_2 {t : ByteArray} {a b : Int} (h : lenB a b t = false) : texC t a b = 2 := by unfold texC; rw [if_neg (by simp [h])]
theorem texC_7 {t : ByteArray} {a b : Int} (h : lenB a b t = true) (h2 : chaB t = false) : texC t a b = 7 := by unfold texC; rw [if_pos h, if_neg (by simp [h2])]
theorem texC_0 {t : ByteArray} {a b : Int} (h : lenB a b t = true) (h2 : chaB t = true) : texC t a b = 0 := by unfold texC; rw [if_pos h, if_pos h2]
theorem l03Code_z (c : UInt8) (z : Int) (w : World) (hz : z = codeV c.toNat) :
    Calls Try.prog 170 #[.int .u8 (c.toNat : Int)] w fun e w' => e = .returned (.int .i64 z) ∧ w = w' := by
  subst hz
  exact l03Code_any c.toNat (Nat.le_of_lt_succ (UInt8.toNat_lt c)) w
set_option maxHeartbeats 2000000 in
theorem l09Text_any (t : ByteArray) (i j : Nat) (w : World) (hl : t.size ≤ 1048576) (hij : i < j) (hj : j ≤ 20) :
    Calls Try.prog 130 #[.string t, .agg #[.int .i64 (i : Int), .int .i64 (j : Int)]] w fun e w' => e = .returned (.int .i64 (texC t (i : Int) (j : Int))) ∧ Below w.heap.size w w' := by
  have T0 : Below w.heap.size w (w.alloc (.cells #[.int .i64 (i : Int), .int .i64 (j : Int)] 30)) := ba (b0 w) _
  have HA := Lib.hid (any_not_allI chB (byt t))
  have HSZ := Lib.hid (byt_size t)
  by_cases hp : (t.size : Int) = (j : Int) - (i : Int)
  · have HLB := Lib.hid (show lenB (i : Int) (j : Int) t = true from beq_t hp)
    have e1 := bne_f hp
    clear hp
    go_enter Try.func130, Try.ntmps130
    go_wp2
    go_loop [5] (fun q => ∃ k : Nat, k ≤ t.size ∧ q = .int .i64 k ∧ ((byt t).take k).any (fun c => !chB c) = false) (fun q => t.size - (intOf q).toNat)
    case atStart => exact ⟨0, by omega, rfl, rfl⟩
    case round =>
      obtain ⟨k, hk, rfl, hno⟩ := hrel
      have HNO := Lib.hid hno
      clear hno
      by_cases hlt : k < t.size
      · have HKL := Lib.hid (show k < (byt t).length by rw [HSZ.out]; exact hlt)
        have HAT := Lib.hid (byt_at t k hlt)
        obtain ⟨z, hz⟩ : ∃ z, z = codeV (t[k]'hlt).toNat := ⟨_, rfl⟩
        have HZ := Lib.hid hz
        have HCB := Lib.hid (show chB ((byt t)[k]'HKL.out) = decide (0 ≤ z) by rw [HAT.out, hz]; rfl)
        clear hz
        by_cases hq : z < 0
        · have HC := Lib.hid (texC_7 HLB.out (show chaB t = false from List.all_eq_false.2 ⟨(byt t)[k]'HKL.out, List.getElem_mem HKL.out, by rw [HCB.out]; simp; omega⟩))
          go_wp2_with fail
          refine (l03Code_z (t[k]'hlt) z _ HZ.out).mono ?_; rintro e w1 ⟨rfl, rfl⟩
          go_wp2
          go_ret
          exact ⟨ret_int HC.out.symm, T0⟩
        · have HP := Lib.hid (any_take_succ (p := fun c => !chB c) HKL.out HNO.out (by rw [HCB.out]; simp; omega))
          go_wp2_with fail
          refine (l03Code_z (t[k]'hlt) z _ HZ.out).mono ?_; rintro e w1 ⟨rfl, rfl⟩
          go_wp2
          go_round
          case rel => exact ⟨k + 1, by omega, by go_num, HP.out⟩
          case measure => simp [intOf]; omega
      · have HC := Lib.hid (texC_0 HLB.out (show chaB t = true by
          have h1 := any_take_all (l := byt t) (by rw [HSZ.out]; exact hlt) HNO.out
          rw [HA.out] at h1
          simpa [chaB] using h1))
        go_wp2
        go_ret
        exact ⟨ret_int HC.out.symm, T0⟩
  · have HC := Lib.hid (texC_2 (show lenB (i : Int) (j : Int) t = false from beq_f hp))
    have e1 := bne_t hp
    clear hp
    go_enter Try.func130, Try.ntmps130
    go_wp2
    go_ret
    exact ⟨ret_int HC.out.symm, T0⟩

/-- The worst code of some texts, of which none has a wrong length. -/
def wstC (ts : List ByteArray) : Int := if ts.all chaB = true then 0 else 7
theorem wstC_nil : wstC [] = 0 := rfl
def askRes (L : List (List Int)) (ts : List ByteArray) (a b : Int) : List (List UInt8) := if colC [L] true ts a b = 0 then keysL L a b else []
theorem askRes_0 {L : List (List Int)} {ts : List ByteArray} {a b : Int} (h : colC [L] true ts a b = 0) : askRes L ts a b = keysL L a b := by unfold askRes; rw [if_pos h]
theorem askRes_1 {L : List (List Int)} {ts : List ByteArray} {a b : Int} (h : colC [L] true ts a b ≠ 0) : askRes L ts a b = [] := by unfold askRes; rw [if_neg h]
theorem col_k1 {L : List (List Int)} {ts : List ByteArray} {a b : Int} (h : codeK L a b ≠ 0) (h8 : codeK L a b ≠ 8) : colC [L] true ts a b = codeK L a b := by
  unfold codeK at *
  by_cases h1 : deckOk L = true
  · rw [if_pos h1] at h h8 ⊢
    by_cases h2 : fieldOk a b (deckW L : Int) = true
    · rw [if_pos h2] at h h8
      exfalso
      revert h h8
      split <;> simp
    · rw [if_neg h2]
      exact colC_2 (by simpa using h1) (by simpa using h2)
  · rw [if_neg h1]
    exact colC_1 (by simpa using h1)
theorem col_k2 {L : List (List Int)} {a b : Int} (h : codeK L a b = 0 ∨ codeK L a b = 8) : deckOk L = true ∧ fieldOk a b (deckW L : Int) = true := by
  unfold codeK at h
  by_cases h1 : deckOk L = true
  · rw [if_pos h1] at h
    by_cases h2 : fieldOk a b (deckW L : Int) = true
    · exact ⟨h1, h2⟩
    · rw [if_neg h2] at h; omega
  · rw [if_neg h1] at h; omega
theorem col_k3 {L : List (List Int)} {ts : List ByteArray} {a b : Int} (h : codeK L a b = 0 ∨ codeK L a b = 8) (ht : ts.all (lenB a b) = false) : colC [L] true ts a b = 2 := by
  obtain ⟨h1, h2⟩ := col_k2 h
  exact colC_3 (by simpa using h1) (by simpa using h2) ht
theorem col_k7 {L : List (List Int)} {ts : List ByteArray} {a b : Int} (h : codeK L a b = 0 ∨ codeK L a b = 8) (ht : ts.all (lenB a b) = true) (hc : ts.all chaB = false) : colC [L] true ts a b = 7 := by
  obtain ⟨h1, h2⟩ := col_k2 h
  exact colC_7 (by simpa using h1) (by simpa using h2) ht hc
theorem col_k8 {L : List (List Int)} {ts : List ByteArray} {a b : Int} (h : codeK L a b = 0 ∨ codeK L a b = 8) (ht : ts.all (lenB a b) = true) (hc : ts.all chaB = true) : colC [L] true ts a b = codeK L a b := by
  obtain ⟨h1, h2⟩ := col_k2 h
  rcases Bool.eq_false_or_eq_true (haveF L a b) with h3 | h3
  · rw [codeK_0 h1 h2 h3]
    exact colC_0 (by simpa using h1) (by simpa using h2) ht hc (by simpa using h3)
  · rw [codeK_8 h1 h2 h3]
    exact colC_8 (by simpa using h1) (by simpa using h2) ht hc (by simpa using h3)
end Go.Proofs.Ytabdlbaonjhnnaa
