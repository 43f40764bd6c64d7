/- The texts of a deck and the code of texts, in the reference. -/
import Derived.Test.YtabdlbaonjhnnaaText2
namespace Go.Proofs.Ytabdlbaonjhnnaa
open Go.RowKit

theorem l09Text_z (t : ByteArray) (i j : Nat) (z : Int) (w : World) (hz : z = texC t (i : Int) (j : Int)) (hl : t.size ≤ 1048576) (hij : i < j) (hj : j ≤ 20) :
    Calls Try.prog 130 #[.string t, .agg #[.int .i64 (i : Int), .int .i64 (j : Int)]] w fun e w' => e = .returned (.int .i64 z) ∧ Below w.heap.size w w' := by
  subst hz
  exact l09Text_any t i j w hl hij hj
theorem wstC_two (ts : List ByteArray) : wstC ts = 0 ∨ wstC ts = 7 := by unfold wstC; split <;> simp
theorem wstC_snoc_t {ts : List ByteArray} {k : Nat} (hk : k < ts.length) (h : chaB ts[k] = true) : wstC (ts.take (k + 1)) = wstC (ts.take k) := by
  unfold wstC
  rw [List.take_succ_eq_append_getElem hk, List.all_append]
  simp [h]
theorem wstC_snoc_f {ts : List ByteArray} {k : Nat} (hk : k < ts.length) (h : chaB ts[k] = false) : wstC (ts.take (k + 1)) = 7 := by
  unfold wstC
  rw [List.take_succ_eq_append_getElem hk, List.all_append]
  simp [h]
theorem wstC_all_0 {ts : List ByteArray} (h : wstC ts = 0) : ts.all chaB = true := by
  unfold wstC at h
  split at h
  · assumption
  · omega
theorem wstC_all_7 {ts : List ByteArray} (h : wstC ts = 7) : ts.all chaB = false := by
  unfold wstC at h
  split at h
  · omega
  · rename_i h1; simpa using h1
theorem askRes_k {L : List (List Int)} {ts : List ByteArray} {a b : Int} (h : colC [L] true ts a b = codeK L a b) : askRes L ts a b = keysRes L a b := by
  unfold askRes keysRes
  rw [h]
theorem ret_nilK {L : List (List UInt8)} {a b : Int} (h : L = []) (k : a = b) : Ending.returned (.tuple #[.slice none 0 0, .int .i64 a]) = .returned (.tuple #[.slice none L.length 0, .int .i64 b]) := by rw [h, k]; rfl
theorem own_nilS (w : World) (B : Nat) {l : List (List UInt8)} (h : l = []) : w.ownsRow B 9 1 (.slice none l.length 0) l.length (strs l) := by
  subst h
  exact World.ownsRow_nil _ _ _ _

set_option maxRecDepth 100000 in
set_option maxHeartbeats 8000000 in
theorem l09Ask_any (D : Option Addr) (c : Nat) (hs : List Hd) (TA : Option Addr) (ct : Nat) (ts : List ByteArray) (a b : Int) (w : World) (ha : RdD w w.heap.size D hs) (hl : hs.length + tot hs ≤ 1048576) (hta : Rd w w.heap.size 1 TA ts.length (strv ts)) (htl : ts.length ≤ 1048576) (hts : ∀ k (h : k < ts.length), ts[k].size ≤ 1048576) :
    Calls Try.prog 71 #[.slice D hs.length c, .agg #[.int .i64 a, .int .i64 b], .slice TA ts.length ct] w fun e w' => ∃ K ck, e = .returned (.tuple #[.slice K (askRes (cards hs) ts a b).length ck, .int .i64 (colC [cards hs] true ts a b)]) ∧
      w'.ownsRow w.heap.size 9 1 (.slice K (askRes (cards hs) ts a b).length ck) (askRes (cards hs) ts a b).length (strs (askRes (cards hs) ts a b)) ∧ Below w.heap.size w w' := by
  have HTS := Lib.hid hts
  have T0 : Below w.heap.size w (w.alloc (.cells #[.int .i64 a, .int .i64 b] 30)) := ba (b0 w) _
  have ra := ha.a1 (.cells #[.int .i64 a, .int .i64 b] 30)
  have rt := hta.a1 (.cells #[.int .i64 a, .int .i64 b] 30)
  clear hts
  by_cases hz : codeK (cards hs) a b = 0 ∨ codeK (cards hs) a b = 8
  · obtain ⟨h1, h2⟩ := col_k2 hz
    have HZ := Lib.hid hz
    obtain ⟨i, j, rfl, rfl, hij, hjw⟩ := fieldOk_nat h2
    have hj20 : j ≤ 20 := Nat.le_trans hjw (deckOk_wid h1).1
    have HCK := Lib.hid (l07Keys_any D c hs (i : Int) (j : Int))
    obtain ⟨ck8, hck8⟩ : ∃ z, z = codeK (cards hs) (i : Int) (j : Int) := ⟨_, rfl⟩
    have HC8 := Lib.hid hck8
    obtain ⟨ks, hks⟩ : ∃ ks, ks = keysRes (cards hs) (i : Int) (j : Int) := ⟨_, rfl⟩
    have HKS := Lib.hid hks
    rw [← hck8, ← hks] at HCK
    rw [← hck8] at hz
    clear hck8 h1 h2 hks
    have e9 : (ck8 != 0 && ck8 != 8) = false := by rcases hz with h | h <;> rw [h] <;> decide
    rcases hz with hz | hz
    all_goals
      have HZ8 := Lib.hid hz
      have e8 := hz
      clear hz
      go_enter Try.func71, Try.ntmps71
      go_wp2_with fail
      refine (HCK.out _ ra hl).mono ?_; rintro e w1 ⟨K, ck, rfl, hown0, hb1⟩
      have k2 : w1.cell? ⟨w.heap.size, 0, none⟩ = some (.int .i64 (i : Int)) := cell_later hb1 (cell_new rfl rfl)
      have k3 : w1.cell? ⟨w.heap.size, 1, none⟩ = some (.int .i64 (j : Int)) := cell_later hb1 (cell_new rfl rfl)
      have T1 := bs T0 hb1
      have rt1 := rt.up hb1
      have HOW := Lib.hid (own_base hown0 T0.size)
      clear hb1 rt ra hown0
      go_wp2
      go_loopw [10, 11] (fun v q wr => ∃ k : Nat, k ≤ ts.length ∧ q = .int .i64 k ∧ v = .int .i64 (wstC (ts.take k)) ∧ (ts.take k).any (fun t => !lenB (i : Int) (j : Int) t) = false ∧ Below w1.heap.size w1 wr) (fun _ q _ => ts.length - (intOf q).toNat)
      case atStart => exact ⟨0, Nat.zero_le _, rfl, rfl, rfl, b0 _⟩
      case round =>
        obtain ⟨wo, rfl⟩ : ∃ wo : World, wo = wr := ⟨_, rfl⟩
        obtain ⟨k, hk, rfl, rfl, hno, hbw⟩ := hrel
        have HNO := Lib.hid hno
        clear hno
        by_cases hlt : k < ts.length
        · have i1 : (k : Int) < (ts.length : Int) := by omega
          have htk := HTS.out k hlt
          obtain ⟨b1, o1, rfl, _, hc⟩ := (rt1.up hbw).at_ hlt
          have d1 := hc k _ (strv_get ts k hlt)
          have d2 := cell_later hbw k2
          have d3 := cell_later hbw k3
          have l1 := fun x : Later wo => lat_cell x d1
          have l2 := fun x : Later wo => lat_cell x d2
          have l3 := fun x : Later wo => lat_cell x d3
          obtain ⟨z, hz⟩ : ∃ z, z = texC ts[k] (i : Int) (j : Int) := ⟨_, rfl⟩
          have HZT := Lib.hid hz
          obtain ⟨v, hv⟩ : ∃ v, v = wstC (ts.take k) := ⟨_, rfl⟩
          have HV := Lib.hid hv
          have hv07 : v = 0 ∨ v = 7 := by rw [hv]; exact wstC_two _
          rw [← hv]
          clear hc d1 d2 d3 hz hv
          go_wp2_with fail
          refine wp_region_later (by kernel_rfl) (by kernel_rfl) ?_
          repeat (go_big_quiet_step ((go_at_call 130; exact lat_call (l09Text_z ts[k] i j z _ HZT.out htk hij hj20))))
          refine wpQuiet_nil ?_
          intro w4 hb4
          have T4 := bs hbw hb4
          clear l1 l2 l3 hbw hb4
          rcases Bool.eq_false_or_eq_true (lenB (i : Int) (j : Int) ts[k]) with hL | hL
          · have HP := Lib.hid (any_take_succ (p := fun t => !lenB (i : Int) (j : Int) t) hlt HNO.out (by rw [hL]; rfl))
            rcases Bool.eq_false_or_eq_true (chaB ts[k]) with hC | hC
            · have e1 : z = 0 := by rw [HZT.out, texC_0 hL hC]
              have HW := Lib.hid (show wstC (ts.take (k + 1)) = v by rw [wstC_snoc_t hlt hC, HV.out])
              clear hL hC
              rcases hv07 with hv0 | hv0
              all_goals
                go_wp2
                go_roundw
                case rel => exact ⟨k + 1, by omega, by go_num, by rw [HW.out]; try first | rfl | (rw [e1, hv0]; done) | (rw [e1]; done) | (rw [hv0]; done), HP.out, T4⟩
                case measure => simp [intOf]; omega
            · have e1 : z = 7 := by rw [HZT.out, texC_7 hL hC]
              have HW := Lib.hid (wstC_snoc_f hlt hC)
              clear hL hC
              rcases hv07 with hv0 | hv0
              all_goals
                go_wp2
                go_roundw
                case rel => exact ⟨k + 1, by omega, by go_num, by rw [HW.out]; try first | rfl | (rw [e1, hv0]; done) | (rw [e1]; done) | (rw [hv0]; done), HP.out, T4⟩
                case measure => simp [intOf]; omega
          · have e1 : z = 2 := by rw [HZT.out, texC_2 hL]
            have HC := Lib.hid (col_k3 (ts := ts) HZ.out (all_bad (p := lenB (i : Int) (j : Int)) hlt hL))
            have HR := Lib.hid (askRes_1 (L := cards hs) (ts := ts) (a := (i : Int)) (b := (j : Int)) (by rw [HC.out]; decide))
            clear hL
            go_wp2
            go_ret2
            exact ⟨none, 0, ret_nilK HR.out (by rw [HC.out]; first | rfl | exact e1), own_nilS _ _ HR.out, bs T1 T4⟩
        · obtain rfl : k = ts.length := by omega
          have HTK := Lib.hid (show ts.take ts.length = ts from List.take_of_length_le (Nat.le_refl _))
          have HLL := Lib.hid (all_of_none (p := lenB (i : Int) (j : Int)) hlt HNO.out)
          obtain ⟨v, hv⟩ : ∃ v, v = wstC (ts.take ts.length) := ⟨_, rfl⟩
          have HV := Lib.hid (show v = wstC ts by rw [hv, HTK.out])
          have hv07 : v = 0 ∨ v = 7 := by rw [hv]; exact wstC_two _
          rw [← hv]
          clear hv
          rcases hv07 with hv0 | hv0
          · have HC := Lib.hid (col_k8 (ts := ts) HZ.out HLL.out (wstC_all_0 (by rw [← HV.out, hv0])))
            have HR := Lib.hid (show askRes (cards hs) ts (i : Int) (j : Int) = ks by rw [askRes_k HC.out, HKS.out])
            have HCZ := Lib.hid (show colC [cards hs] true ts (i : Int) (j : Int) = ck8 by rw [HC.out, ← HC8.out])
            have HO := Lib.hid (own_bs HOW.out hbw)
            go_wp2
            go_ret2
            refine ⟨K, ck, ret_kk (by rw [HCZ.out, HZ8.out]) (by rw [HR.out]), ?_, bs T1 hbw⟩
            rw [HR.out]
            exact HO.out
          · have HC := Lib.hid (col_k7 (ts := ts) HZ.out HLL.out (wstC_all_7 (by rw [← HV.out, hv0])))
            have HR := Lib.hid (askRes_1 (L := cards hs) (ts := ts) (a := (i : Int)) (b := (j : Int)) (by rw [HC.out]; decide))
            go_wp2
            go_ret2
            exact ⟨none, 0, ret_nilK HR.out (by rw [HC.out]; first | rfl | exact hv0), own_nilS _ _ HR.out, bs T1 hbw⟩
  · have hz0 : codeK (cards hs) a b ≠ 0 := fun h => hz (.inl h)
    have hz8 : codeK (cards hs) a b ≠ 8 := fun h => hz (.inr h)
    have HC := Lib.hid (col_k1 (ts := ts) hz0 hz8)
    have HR := Lib.hid (askRes_1 (L := cards hs) (ts := ts) (a := a) (b := b) (by rw [HC.out]; exact hz0))
    have e1 := bne_t hz0
    have e2 := bne_t hz8
    clear hz hz0 hz8
    go_enter Try.func71, Try.ntmps71
    go_wp2_with fail
    refine (l07Keys_any _ _ hs _ _ _ ra hl).mono ?_; rintro e w1 ⟨K, ck, rfl, hown0, hb1⟩
    go_wp2
    go_ret2
    exact ⟨none, 0, ret_nilK HR.out HC.out.symm, own_nilS _ _ HR.out, bs T0 hb1⟩
end Go.Proofs.Ytabdlbaonjhnnaa
