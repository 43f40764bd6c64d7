/- Texts for a field: punching, comparing, the codes; in the program and in the reference. Comparing fields with texts, the codes of texts; in the program and in the reference. The texts of a deck and the code of texts, in the reference. SelectBetween, SelectEqual; in the program and in the reference. SelectBetween, SelectEqual; in the reference; SelectEqual in the program. -/
import Derived.Test.YtdppmlchabogaaaCollate
import Derived.Test.YtdppmlchabogaaaKeysAll
import Derived.Test.YtdppmlchabogaaaLace
import Derived.RegionTactic
import Derived.Deep.RegionHeld3
import Derived.Test.YtdppmlchabogaaaDelCard
import Derived.Test.YtdppmlchabogaaaRunLaw
import Derived.Test.YtdppmlchabogaaaGroups
/-! ### Texts for a field: punching, comparing, the codes; in the program and in the reference. -/
namespace Go.Proofs.Ytdppmlchabogaaa
open Go.RowKit

/-- The columns of a text. -/
def punL (s : ByteArray) : List Int := (byt s).map fun c => codeV c.toNat
theorem punL_length (s : ByteArray) : (punL s).length = s.size := by unfold punL; rw [List.length_map, byt_size]
theorem rankM_code : ∀ c : UInt8, chB c = true → rankM (codeV c.toNat) = rankC c := by
  intro c
  have h : ∀ n : Fin 256, chB (UInt8.ofNat n.val) = true → rankM (codeV (UInt8.ofNat n.val).toNat) = rankC (UInt8.ofNat n.val) := by decide +kernel
  have := h ⟨c.toNat, UInt8.toNat_lt c⟩
  simpa using this
theorem rankC_inj : ∀ a b : UInt8, chB a = true → chB b = true → rankC a = rankC b → a = b := by
  have h : ∀ a : UInt8, chB a = true → charL.getD (rankC a).toNat 0 = a := by
    intro c
    have h : ∀ n : Fin 256, chB (UInt8.ofNat n.val) = true → charL.getD (rankC (UInt8.ofNat n.val)).toNat 0 = UInt8.ofNat n.val := by decide +kernel
    have := h ⟨c.toNat, UInt8.toNat_lt c⟩
    simpa using this
  intro a b ha hb e
  rw [← h a ha, ← h b hb, e]
theorem punL_ranks {s : ByteArray} (h : chaB s = true) : (punL s).map rankM = (byt s).map rankC := by
  unfold punL
  rw [List.map_map]
  apply List.map_congr_left
  intro c hc
  exact rankM_code c (List.all_eq_true.1 h c hc)
theorem cmp_text {xs : List Int} {s : ByteArray} (hx : legalL xs = true) (hs : chaB s = true) : cmpR xs (punL s) = cmpT (textL xs) (byt s) := by
  unfold cmpR cmpT
  rw [punL_ranks hs, textL_ranks hx]
theorem textL_ch {xs : List Int} (h : legalL xs = true) : (textL xs).all chB = true := by
  rw [List.all_eq_true]
  intro c hc
  obtain ⟨m, hm, rfl⟩ := List.mem_map.1 hc
  have h0 : 0 ≤ rankM m := by simpa [legalM] using List.all_eq_true.1 h m hm
  have h1 := (rankM_range m).2
  obtain ⟨k, hk⟩ : ∃ k : Nat, rankM m = k := ⟨(rankM m).toNat, by omega⟩
  have hk40 : k < 40 := by omega
  rw [charM_of hk40 hk]
  have := (char_code k hk40).1
  unfold chB
  exact decide_eq_true this
theorem cmpT_eq {s t : List UInt8} (hs : s.all chB = true) (ht : t.all chB = true) (hl : s.length = t.length) : (cmpT s t = 0) ↔ s = t := by
  unfold cmpT
  rw [cmpN_zero (by simpa using hl)]
  constructor
  · intro h
    apply List.ext_getElem hl
    intro i h1 h2
    have h3 := congrArg (fun l => l[i]?) h
    simp only [List.getElem?_map, List.getElem?_eq_getElem h1, List.getElem?_eq_getElem h2, Option.map_some, Option.some.injEq] at h3
    exact rankC_inj _ _ (List.all_eq_true.1 hs _ (List.getElem_mem h1)) (List.all_eq_true.1 ht _ (List.getElem_mem h2)) h3
  · intro h
    rw [h]

theorem codeO_ch {c : UInt8} (h : chB c = true) : codeO c.toNat = codeV c.toNat := by
  have : 0 ≤ codeV c.toNat := by simpa [chB] using h
  unfold codeO
  rw [if_pos this]
theorem codeOf_z (c : UInt8) (z : Int) (w : World) (hz : z = codeV c.toNat) (h : chB c = true) :
    Calls Try.prog 169 #[.int .u8 (c.toNat : Int)] w fun e w' => e = .returned (.int .i64 z) ∧ w = w' := by
  rw [hz, ← codeO_ch h]
  exact codeOf_any c.toNat (Nat.le_of_lt_succ (UInt8.toNat_lt c)) w
theorem chaB_at {s : ByteArray} (h : chaB s = true) {k : Nat} (hk : k < s.size) : chB s[k] = true := by
  have := List.all_eq_true.1 h ((byt s)[k]'(by rw [byt_size]; exact hk)) (List.getElem_mem _)
  exact this
theorem punL_at {s : ByteArray} {k : Nat} (hk : k < s.size) : (ints (punL s))[k]? = some (.int .i64 (codeV s[k].toNat)) := by
  have h1 : k < (punL s).length := by rw [punL_length]; exact hk
  have h2 : (punL s)[k]'h1 = codeV s[k].toNat := by
    simp only [punL, List.getElem_map]
    rfl
  rw [ints_get _ k h1, h2]

set_option maxRecDepth 100000 in
set_option maxHeartbeats 4000000 in
theorem punchText_any (s : ByteArray) (n : Nat) (w : World) (hn : s.size = n) (hn1 : 0 < n) (hl : n ≤ 1048576) (hch : chaB s = true) :
    Calls Try.prog 237 #[.string s, .int .i64 (n : Int)] w fun e w' => ∃ G, e = .returned (.agg #[.slice G n n]) ∧ w'.ownsRow w.heap.size 2 1 (.slice G n n) n (ints (punL s)) ∧ Below w.heap.size w w' := by
  have HN := Lib.hid hn
  have HCH := Lib.hid hch
  have HPL := Lib.hid (punL_length s)
  clear hn hch
  have T0 : Below w.heap.size w (w.alloc (.cells #[.slice none 0 0] 37)) := ba (b0 w) _
  go_enter Try.func237, Try.ntmps237
  go_wp2_with fail
  refine (blank_any n _ hl).mono ?_; rintro e w2 ⟨B, rfl, ho, hb2⟩
  obtain ⟨g, rfl, hg, hglt⟩ := own_at ho hn1
  have k2 : w2.cell? ⟨w.heap.size, 0, none⟩ = some (.slice none 0 0) := cell_later hb2 (cell_new rfl rfl)
  have f2 : w2.frozen? ⟨w.heap.size, 0, none⟩ = false := froz_later hb2 (froz_new rfl) (by simp)
  have hz2 := hb2.size
  simp only [World.size_alloc] at hz2 hg
  have T2 := bs T0 hb2
  have T3 : Below w.heap.size w (w2.alloc (.cells #[.slice (some ⟨g, 0, none⟩) n n] 37)) := ba T2 _
  have ho3 := ho.alloc (.cells #[.slice (some ⟨g, 0, none⟩) n n] 37)
  have k3 : (w2.alloc (.cells #[.slice (some ⟨g, 0, none⟩) n n] 37)).cell? ⟨w2.heap.size, 0, none⟩ = some (.slice (some ⟨g, 0, none⟩) n n) := cell_new rfl rfl
  have k2' := cell_alloc k2 (.cells #[.slice (some ⟨g, 0, none⟩) n n] 37)
  have f2' := froz_alloc f2 (by omega) (.cells #[.slice (some ⟨g, 0, none⟩) n n] 37)
  have hgne : ¬ g = w2.heap.size := by omega
  have hgne2 : ¬ g = w.heap.size := by omega
  clear ho hb2 k2 f2 T0 T2
  go_wp2
  go_loopw [6] (fun q wr => ∃ (k : Nat) (ys : List Value), k ≤ n ∧ q = .int .i64 k ∧ wr.ownsRow (w.heap.size + 1) 2 1 (.slice (some ⟨g, 0, none⟩) n n) n ys ∧ ys.take k = (ints (punL s)).take k ∧ Below w.heap.size w wr ∧
    wr.cell? ⟨w2.heap.size, 0, none⟩ = some (.slice (some ⟨g, 0, none⟩) n n) ∧ wr.cell? ⟨w.heap.size, 0, none⟩ = some (.slice none 0 0) ∧ wr.frozen? ⟨w.heap.size, 0, none⟩ = false) (fun q _ => n - (intOf q).toNat)
  case atStart => exact ⟨0, _, Nat.zero_le _, rfl, by simpa using ho3, by simp, T3, k3, k2', f2'⟩
  case round =>
    obtain ⟨wo, rfl⟩ : ∃ wo : World, wo = wr := ⟨_, rfl⟩
    obtain ⟨k, ys, hk, rfl, hown, htk, hbw, c3, c2, fr2⟩ := hrel
    have HTK := Lib.hid htk
    have HYL := Lib.hid (show ys.length = n by have := hown.1; rwa [Nat.mul_one] at this)
    have hnsz : n ≤ s.size := by rw [HN.out]; exact Nat.le_refl _
    have hszn : s.size ≤ n := by rw [HN.out]; exact Nat.le_refl _
    clear htk
    by_cases hlt : k < n
    · have hks : k < s.size := by omega
      obtain ⟨z, hz⟩ : ∃ z, z = codeV (s[k]'hks).toNat := ⟨_, rfl⟩
      have HZ := Lib.hid hz
      have HCK := Lib.hid (chaB_at HCH.out hks)
      have hky : k < ys.length := by rw [HYL.out]; exact hlt
      have HT2 := Lib.hid (take_step (u := .int .i64 z) HTK.out hky (by rw [hz]; exact punL_at hks))
      have cy := own_cell hown k hky
      have fy := hown.frozenAt k
      have hst := ownsRow_set hown k (.int .i64 z)
      have i1 : (k : Int) < (s.size : Int) := by omega
      have i2 : (k : Int) < (n : Int) := by omega
      have HST := Lib.hid hst
      clear hz hst
      go_wp2
      go_region_with (go_at_call 169; refine (codeOf_z (s[k]'hks) z _ HZ.out HCK.out).mono ?_; rintro e w9 ⟨rfl, rfl⟩)
      all_goals
        go_wp2
        go_roundw
        case rel => exact ⟨k + 1, _, by omega, by go_num, HST.out, HT2.out, (bset hbw _ _ _ (by omega)).drew, set_far c3 hgne, set_far c2 hgne2, set_far_f fr2 hgne2⟩
        case measure => simp [intOf]; omega
    · obtain rfl : k = n := by omega
      have HE := Lib.hid (take_done HTK.out HYL.out (by rw [ints_length, HPL.out]; exact HN.out))
      go_wp2
      refine bodyPost_ret (v := .agg #[.slice (some ⟨g, 0, none⟩) k k]) (by simp [results, Try.results237, go_sem, *]) rfl ?_
      refine ⟨some ⟨g, 0, none⟩, rfl, ?_, bset hbw _ _ _ (Nat.le_refl _)⟩
      rw [← HE.out]
      exact own_base (own_below hown _ _ _ (by omega)) (by omega)
end Go.Proofs.Ytdppmlchabogaaa

/-! ### Comparing fields with texts, the codes of texts; in the program and in the reference. -/
namespace Go.Proofs.Ytdppmlchabogaaa
open Go.RowKit

theorem field_card (G : Option Addr) (n c : Nat) (w : World) : (Instr.field 37 (.agg #[.slice G n c]) 0).run Try.prog w = .ok (.slice G n c) w := by kernel_rfl
set_option maxRecDepth 100000 in
set_option maxHeartbeats 4000000 in
theorem compareText_any (A : Option Addr) (c : Nat) (xs : List Int) (s : ByteArray) (i j : Nat) (z : Int) (w : World) (hz : z = cmpT (textL (part xs (i : Int) (j : Int))) (byt s)) (ha : Rd w w.heap.size 1 A xs.length (ints xs)) (hij : i < j) (hj : j ≤ xs.length) (hc : xs.length ≤ c) (hl : xs.length ≤ 1048576)
    (hlx : legalL (part xs (i : Int) (j : Int)) = true) (hs : s.size = j - i) (hch : chaB s = true) :
    Calls Try.prog 156 #[.agg #[.slice A xs.length c], .agg #[.int .i64 (i : Int), .int .i64 (j : Int)], .string s] w fun e w' => e = .returned (.int .i64 z) ∧ Below w.heap.size w w' := by
  obtain ⟨b1, o1, rfl, _, _⟩ := ha.at_ (show 0 < xs.length by omega)
  have T0 : Below w.heap.size w ((w.alloc (.cells #[.slice (some ⟨b1, o1, none⟩) xs.length c] 37)).alloc (.cells #[.int .i64 (i : Int), .int .i64 (j : Int)] 27)) := ba (ba (b0 w) _) _
  have ra := (ha.a1 (.cells #[.slice (some ⟨b1, o1, none⟩) xs.length c] 37)).a1 (.cells #[.int .i64 (i : Int), .int .i64 (j : Int)] 27)
  obtain ⟨W, hW⟩ : ∃ W, W = (w.alloc (.cells #[.slice (some ⟨b1, o1, none⟩) xs.length c] 37)).alloc (.cells #[.int .i64 (i : Int), .int .i64 (j : Int)] 27) := ⟨_, rfl⟩
  have k1 : W.cell? ⟨w.heap.size, 0, none⟩ = some (.slice (some ⟨b1, o1, none⟩) xs.length c) := by rw [hW]; exact cell_alloc (cell_new rfl rfl) _
  have k3 : W.cell? ⟨w.heap.size + 1, 0, none⟩ = some (.int .i64 (i : Int)) := by rw [hW]; exact cell_new (by simp) rfl
  have k4 : W.cell? ⟨w.heap.size + 1, 1, none⟩ = some (.int .i64 (j : Int)) := by rw [hW]; exact cell_new (by simp) rfl
  rw [← hW] at ra T0
  have pa := rd_part ra hij hj
  have HPA := Lib.hid (part_len hij hj)
  have HPU := Lib.hid (show (punL s).length = j - i by rw [punL_length, hs])
  have HZ := Lib.hid (show z = cmpR (part xs (i : Int) (j : Int)) (punL s) by rw [hz, cmp_text hlx hch])
  have HS := Lib.hid hs
  have HCH := Lib.hid hch
  have HW := Lib.hid hW
  have ci : ¬ c = i := by omega
  have i1 : (i : Int) ≤ (j : Int) := by omega
  have i2 : (j : Int) ≤ (c : Int) := by omega
  have hji : 0 < j - i := by omega
  have hjl : j - i ≤ 1048576 := by omega
  have hw1 : IntKind.i64.wrap ((j : Int) - (i : Int)) = ((j - i : Nat) : Int) := by rw [IntWalk.i64_in _ (by omega)]; omega
  have hfd := field_card
  clear hW hz hs hch hlx ra ha
  go_enter Try.func156, Try.ntmps156
  go_wp2_with fail
  rw [← HW.out]
  go_region_held3 (fun w' => w'.cell? ⟨w.heap.size, 0, none⟩ = some (.slice (some ⟨b1, o1, none⟩) xs.length c) ∧ w'.cell? ⟨w.heap.size + 1, 0, none⟩ = some (.int .i64 (i : Int)) ∧ w'.cell? ⟨w.heap.size + 1, 1, none⟩ = some (.int .i64 (j : Int))) (first | exact ⟨k1, k3, k4⟩ | go_keep)
    (first
      | (go_at_call 237; refine (punchText_any s (j - i) _ HS.out hji hjl HCH.out).mono ?_; rintro e w4 ⟨G, rfl, ho, hb4⟩; have hb4 : Below W.heap.size W w4 := ⟨hb4.os, hb4.tape, hb4.output, hb4.size, hb4.block⟩; replace k1 := cell_later hb4 k1; replace k3 := cell_later hb4 k3; replace k4 := cell_later hb4 k4; have T4 := bs T0 hb4; have pb := Rd.own ho; have pa4 := pa.up hb4; clear hb4 T0)
      | (go_at_call 236; refine (compareHoles_q (j - i) _ _ _ _ (part xs (i : Int) (j : Int)) (punL s) z _ HZ.out HPA.out HPU.out ?_ ?_ hjl).mono ?_; (first | exact pa4 | exact pa4.drew); (first | exact pb | exact pb.drew); rintro e w5 ⟨rfl, hb5⟩; have hb5 : Below w4.heap.size w4 w5 := ⟨hb5.os, hb5.tape, hb5.output, hb5.size, hb5.block⟩; replace k1 := cell_later hb5 k1; replace k3 := cell_later hb5 k3; replace k4 := cell_later hb5 k4; have T5 := bs T4 hb5; clear hb5 T4))
  clear hw1
  go_wp2
  go_ret
  exact ⟨rfl, T5⟩

/-- The code of a text for a field. -/
def texC (t : ByteArray) (a b : Int) : Int := if lenB a b t = true then (if chaB t = true then 0 else 7) else 2
theorem texC_2 {t : ByteArray} {a b : Int} (h : lenB a b t = false) : texC t a b = 2 := by unfold texC; rw [if_neg (by simp [h])]
theorem texC_7 {t : ByteArray} {a b : Int} (h : lenB a b t = true) (h2 : chaB t = false) : texC t a b = 7 := by unfold texC; rw [if_pos h, if_neg (by simp [h2])]
theorem texC_0 {t : ByteArray} {a b : Int} (h : lenB a b t = true) (h2 : chaB t = true) : texC t a b = 0 := by unfold texC; rw [if_pos h, if_pos h2]
theorem l03Code_z (c : UInt8) (z : Int) (w : World) (hz : z = codeV c.toNat) :
    Calls Try.prog 171 #[.int .u8 (c.toNat : Int)] w fun e w' => e = .returned (.int .i64 z) ∧ w = w' := by
  subst hz
  exact l03Code_any c.toNat (Nat.le_of_lt_succ (UInt8.toNat_lt c)) w
/-- The worst code of some texts, of which none has a wrong length. -/
def wstC (ts : List ByteArray) : Int := if ts.all chaB = true then 0 else 7
theorem wstC_nil : wstC [] = 0 := rfl
def askRes (L : List (List Int)) (ts : List ByteArray) (a b : Int) : List (List UInt8) := if colC [L] true ts a b = 0 then keysL L a b else []
theorem askRes_0 {L : List (List Int)} {ts : List ByteArray} {a b : Int} (h : colC [L] true ts a b = 0) : askRes L ts a b = keysL L a b := by unfold askRes; rw [if_pos h]
theorem askRes_1 {L : List (List Int)} {ts : List ByteArray} {a b : Int} (h : colC [L] true ts a b ≠ 0) : askRes L ts a b = [] := by unfold askRes; rw [if_neg h]
theorem col_k1 {L : List (List Int)} {ts : List ByteArray} {a b : Int} (h : codeK L a b ≠ 0) (h8 : codeK L a b ≠ 8) : colC [L] true ts a b = codeK L a b := by
  unfold codeK at *
  by_cases h1 : deckOk L = true
  · rw [if_pos h1] at h h8 ⊢
    by_cases h2 : fieldOk a b (deckW L : Int) = true
    · rw [if_pos h2] at h h8
      exfalso
      revert h h8
      split <;> simp
    · rw [if_neg h2]
      exact colC_2 (by simpa using h1) (by simpa using h2)
  · rw [if_neg h1]
    exact colC_1 (by simpa using h1)
theorem col_k2 {L : List (List Int)} {a b : Int} (h : codeK L a b = 0 ∨ codeK L a b = 8) : deckOk L = true ∧ fieldOk a b (deckW L : Int) = true := by
  unfold codeK at h
  by_cases h1 : deckOk L = true
  · rw [if_pos h1] at h
    by_cases h2 : fieldOk a b (deckW L : Int) = true
    · exact ⟨h1, h2⟩
    · rw [if_neg h2] at h; omega
  · rw [if_neg h1] at h; omega
theorem col_k3 {L : List (List Int)} {ts : List ByteArray} {a b : Int} (h : codeK L a b = 0 ∨ codeK L a b = 8) (ht : ts.all (lenB a b) = false) : colC [L] true ts a b = 2 := by
  obtain ⟨h1, h2⟩ := col_k2 h
  exact colC_3 (by simpa using h1) (by simpa using h2) ht
theorem col_k7 {L : List (List Int)} {ts : List ByteArray} {a b : Int} (h : codeK L a b = 0 ∨ codeK L a b = 8) (ht : ts.all (lenB a b) = true) (hc : ts.all chaB = false) : colC [L] true ts a b = 7 := by
  obtain ⟨h1, h2⟩ := col_k2 h
  exact colC_7 (by simpa using h1) (by simpa using h2) ht hc
theorem col_k8 {L : List (List Int)} {ts : List ByteArray} {a b : Int} (h : codeK L a b = 0 ∨ codeK L a b = 8) (ht : ts.all (lenB a b) = true) (hc : ts.all chaB = true) : colC [L] true ts a b = codeK L a b := by
  obtain ⟨h1, h2⟩ := col_k2 h
  rcases Bool.eq_false_or_eq_true (haveF L a b) with h3 | h3
  · rw [codeK_0 h1 h2 h3]
    exact colC_0 (by simpa using h1) (by simpa using h2) ht hc (by simpa using h3)
  · rw [codeK_8 h1 h2 h3]
    exact colC_8 (by simpa using h1) (by simpa using h2) ht hc (by simpa using h3)
end Go.Proofs.Ytdppmlchabogaaa

/-! ### The texts of a deck and the code of texts, in the reference. -/
namespace Go.Proofs.Ytdppmlchabogaaa
open Go.RowKit

theorem wstC_two (ts : List ByteArray) : wstC ts = 0 ∨ wstC ts = 7 := by unfold wstC; split <;> simp
theorem wstC_snoc_t {ts : List ByteArray} {k : Nat} (hk : k < ts.length) (h : chaB ts[k] = true) : wstC (ts.take (k + 1)) = wstC (ts.take k) := by
  unfold wstC
  rw [List.take_succ_eq_append_getElem hk, List.all_append]
  simp [h]
theorem wstC_snoc_f {ts : List ByteArray} {k : Nat} (hk : k < ts.length) (h : chaB ts[k] = false) : wstC (ts.take (k + 1)) = 7 := by
  unfold wstC
  rw [List.take_succ_eq_append_getElem hk, List.all_append]
  simp [h]
theorem wstC_all_0 {ts : List ByteArray} (h : wstC ts = 0) : ts.all chaB = true := by
  unfold wstC at h
  split at h
  · assumption
  · omega
theorem wstC_all_7 {ts : List ByteArray} (h : wstC ts = 7) : ts.all chaB = false := by
  unfold wstC at h
  split at h
  · omega
  · rename_i h1; simpa using h1
theorem askRes_k {L : List (List Int)} {ts : List ByteArray} {a b : Int} (h : colC [L] true ts a b = codeK L a b) : askRes L ts a b = keysRes L a b := by
  unfold askRes keysRes
  rw [h]
theorem ret_nilK {L : List (List UInt8)} {a b : Int} (h : L = []) (k : a = b) : Ending.returned (.tuple #[.slice none 0 0, .int .i64 a]) = .returned (.tuple #[.slice none L.length 0, .int .i64 b]) := by rw [h, k]; rfl
theorem own_nilS (w : World) (B : Nat) {l : List (List UInt8)} (h : l = []) : w.ownsRow B 9 1 (.slice none l.length 0) l.length (strs l) := by
  subst h
  exact World.ownsRow_nil _ _ _ _

end Go.Proofs.Ytdppmlchabogaaa

/-! ### SelectBetween, SelectEqual; in the program and in the reference. -/
namespace Go.Proofs.Ytdppmlchabogaaa
open Go.RowKit

theorem rd_str1 {w : World} {g : Nat} {s : ByteArray} (h0 : w.cell? ⟨g, 0, none⟩ = some (.string s)) : Rd w w.heap.size 1 (some ⟨g, 0, none⟩) [s].length (strv [s]) := by
  refine ⟨rfl, fun _ => ⟨g, 0, rfl, World.block_lt_of_cell? _ _ h0, fun j u hu => ?_⟩⟩
  match j with
  | 0 => simp [strv] at hu; subst hu; exact h0
  | j + 1 => simp [strv] at hu
theorem rd_str2 {w : World} {g : Nat} {s t : ByteArray} (h0 : w.cell? ⟨g, 0, none⟩ = some (.string s)) (h1 : w.cell? ⟨g, 1, none⟩ = some (.string t)) : Rd w w.heap.size 1 (some ⟨g, 0, none⟩) [s, t].length (strv [s, t]) := by
  refine ⟨rfl, fun _ => ⟨g, 0, rfl, World.block_lt_of_cell? _ _ h0, fun j u hu => ?_⟩⟩
  match j with
  | 0 => simp [strv] at hu; subst hu; exact h0
  | 1 => simp [strv] at hu; subst hu; exact h1
  | j + 2 => simp [strv] at hu
theorem collateT_any (a b : Int) (TA : Option Addr) (ct : Nat) (ts : List ByteArray) (g : Nat) (D : Option Addr) (c : Nat) (hs : List Hd) (w : World) (h : w.cell? ⟨g, 0, none⟩ = some (.slice D hs.length c)) (ha : RdD w w.heap.size D hs) (hc : hs.length ≤ c) (hl : hs.length + tot hs ≤ 1048576)
    (hta : Rd w w.heap.size 1 TA ts.length (strv ts)) (htl : ts.length ≤ 1048576) (hts : ∀ k (h : k < ts.length), ts[k].size ≤ 1048576) :
    Calls Try.prog 127 #[.agg #[.int .i64 a, .int .i64 b], .bool true, .slice TA ts.length ct, .slice (some ⟨g, 0, none⟩) 1 1] w fun e w' => e = .returned (.int .i64 (colC [cards hs] true ts a b)) ∧ Below w.heap.size w w' :=
  collateCode_any a b TA ct ts (some ⟨g, 0, none⟩) 1 [⟨D, c, hs, 0, 0⟩] w (rdd_one h ha hc) (by simp) (by simp) (fun k hk => by simp at hk; subst hk; exact hl) hta htl hts
theorem colC_zero {L : List (List Int)} {ts : List ByteArray} {a b : Int} (h : colC [L] true ts a b = 0) : codeK L a b = 0 ∧ ts.all (lenB a b) = true ∧ ts.all chaB = true := by
  by_cases h0 : codeK L a b = 0 ∨ codeK L a b = 8
  · rcases Bool.eq_false_or_eq_true (ts.all (lenB a b)) with h1 | h1
    · rcases Bool.eq_false_or_eq_true (ts.all chaB) with h2 | h2
      · rw [col_k8 h0 h1 h2] at h
        exact ⟨h, h1, h2⟩
      · rw [col_k7 h0 h1 h2] at h; omega
    · rw [col_k3 h0 h1] at h; omega
  · have h1 : codeK L a b ≠ 0 := fun e => h0 (.inl e)
    rw [col_k1 h1 (fun e => h0 (.inr e))] at h
    exact absurd h h1
/-- The cards that are struck out. -/
def selB (s t : ByteArray) (a b : Int) (x : List Int) : Bool := decide (cmpT (textL (part x a b)) (byt s) < 0) || decide (0 < cmpT (textL (part x a b)) (byt t))
def selRes (L : List (List Int)) (a b : Int) (s t : ByteArray) : List (List Int) := if colC [L] true [s, t] a b = 0 then keep (selB s t a b) L else []
theorem selRes_0 {L : List (List Int)} {a b : Int} {s t : ByteArray} (h : colC [L] true [s, t] a b = 0) : selRes L a b s t = keep (selB s t a b) L := by unfold selRes; rw [if_pos h]
theorem selRes_1 {L : List (List Int)} {a b : Int} {s t : ByteArray} (h : colC [L] true [s, t] a b ≠ 0) : selRes L a b s t = [] := by unfold selRes; rw [if_neg h]
theorem sub_bound2 {M L : List (List Int)} (hs : ∀ x ∈ M, x ∈ L) (hn : M.length ≤ 40) (ho : deckOk L = true) {gs : List Hd} (h : cards gs = M) : gs.length + tot gs ≤ 840 := by
  subst h
  have := deckOk_sum (deckOk_sub hs hn ho)
  rwa [cards_length, ← tot_of_cards (gs := gs) rfl] at this
theorem keep_bound {L : List (List Int)} (p : List Int → Bool) (ho : deckOk L = true) {gs : List Hd} (h : cards gs = keep p L) : gs.length + tot gs ≤ 840 :=
  sub_bound2 (fun x hx => (List.mem_filter.1 hx).1) (Nat.le_trans (List.length_filter_le _ _) (deckOk_len ho)) ho h
theorem nil_bound {gs : List Hd} (h : cards gs = []) : gs.length + tot gs ≤ 840 := by
  have : gs = [] := by
    cases gs with
    | nil => rfl
    | cons x gs => simp [cards] at h
  subst this
  simp [tot]
theorem selRes_bound (L : List (List Int)) (a b : Int) (s t : ByteArray) {gs : List Hd} (h : cards gs = selRes L a b s t) : gs.length + tot gs ≤ 840 := by
  by_cases hz : colC [L] true [s, t] a b = 0
  · rw [selRes_0 hz] at h
    exact keep_bound _ (codeK_zero (colC_zero hz).1).1 h
  · rw [selRes_1 hz] at h
    exact nil_bound h

set_option maxHeartbeats 2000000 in
theorem SelectBetween1_any (bf bl bh : Nat) (A : Option Addr) (c : Nat) (xs : List Int) (s t : ByteArray) (i j : Nat) (w : World) (h1 : w.cell? ⟨bf, 0, none⟩ = some (.int .i64 (i : Int))) (h2 : w.cell? ⟨bf, 1, none⟩ = some (.int .i64 (j : Int))) (h3 : w.cell? ⟨bl, 0, none⟩ = some (.string s)) (h4 : w.cell? ⟨bh, 0, none⟩ = some (.string t))
    (ha : Rd w w.heap.size 1 A xs.length (ints xs)) (hij : i < j) (hj : j ≤ xs.length) (hc : xs.length ≤ c) (hl : xs.length ≤ 1048576) (hlx : legalL (part xs (i : Int) (j : Int)) = true) (hs : s.size = j - i) (ht : t.size = j - i) (hsc : chaB s = true) (htc : chaB t = true) :
    Calls Try.prog 155 #[.agg #[.slice A xs.length c], .pointer (some ⟨bf, 0, none⟩), .pointer (some ⟨bl, 0, none⟩), .pointer (some ⟨bh, 0, none⟩)] w fun e w' => e = .returned (.bool (selB s t (i : Int) (j : Int) xs)) ∧ Below w.heap.size w w' := by
  obtain ⟨y, hy⟩ : ∃ y, y = cmpT (textL (part xs (i : Int) (j : Int))) (byt s) := ⟨_, rfl⟩
  obtain ⟨z, hz⟩ : ∃ z, z = cmpT (textL (part xs (i : Int) (j : Int))) (byt t) := ⟨_, rfl⟩
  have HY := Lib.hid hy
  have HZ := Lib.hid hz
  have HB := Lib.hid (show selB s t (i : Int) (j : Int) xs = (decide (y < 0) || decide (0 < z)) by rw [hy, hz]; rfl)
  have HS := Lib.hid hs
  have HT := Lib.hid ht
  have HSC := Lib.hid hsc
  have HTC := Lib.hid htc
  have HLX := Lib.hid hlx
  have k1 := cell_alloc h1 (.cells #[.slice A xs.length c] 37)
  have k2 := cell_alloc h2 (.cells #[.slice A xs.length c] 37)
  have k3 := cell_alloc h3 (.cells #[.slice A xs.length c] 37)
  have k4 := cell_alloc h4 (.cells #[.slice A xs.length c] 37)
  have ra := ha.a1 (.cells #[.slice A xs.length c] 37)
  have k5 : World.cell? (w.alloc (.cells #[.slice A xs.length c] 37)) ⟨w.heap.size, 0, none⟩ = some (.slice A xs.length c) := cell_new rfl rfl
  have T0 : Below w.heap.size w (w.alloc (.cells #[.slice A xs.length c] 37)) := ba (b0 w) _
  clear hy hz hs ht hsc htc hlx h1 h2 h3 h4 ha
  by_cases hp : y < 0
  · go_enter Try.func155, Try.ntmps155
    go_wp2_with fail
    refine (compareText_any A c xs s i j y _ HY.out ra hij hj hc hl HLX.out HS.out HSC.out).mono ?_; rintro e w1 ⟨rfl, hb1⟩
    go_wp2
    go_ret
    exact ⟨ret_bool (by rw [HB.out, decide_eq_true hp]; rfl), bs T0 hb1⟩
  · go_enter Try.func155, Try.ntmps155
    go_wp2_with fail
    refine (compareText_any A c xs s i j y _ HY.out ra hij hj hc hl HLX.out HS.out HSC.out).mono ?_; rintro e w1 ⟨rfl, hb1⟩
    replace k1 := cell_later hb1 k1
    replace k2 := cell_later hb1 k2
    replace k4 := cell_later hb1 k4
    replace k5 := cell_later hb1 k5
    go_wp2_with fail
    refine (compareText_any A c xs t i j z _ HZ.out (ra.up hb1) hij hj hc hl HLX.out HT.out HTC.out).mono ?_; rintro e w2 ⟨rfl, hb2⟩
    go_wp2
    go_ret
    exact ⟨ret_bool HB.out.symm, bs (bs T0 hb1) hb2⟩

theorem lenB_nat {i j : Nat} {t : ByteArray} (hij : i < j) (h : lenB (i : Int) (j : Int) t = true) : t.size = j - i := by
  have : (t.size : Int) = (j : Int) - (i : Int) := eq_of_beq h
  omega
set_option maxRecDepth 20000 in
set_option maxHeartbeats 4000000 in
theorem SelectBetween_any (D : Option Addr) (c : Nat) (hs : List Hd) (L : List (List Int)) (a b : Int) (s t : ByteArray) (w : World) (ha : RdD w w.heap.size D hs) (hL : cards hs = L) (hl : hs.length + tot hs ≤ 1048576) (hc : hs.length ≤ c) (hq1 : s.size ≤ 1048576) (hq2 : t.size ≤ 1048576) :
    Calls Try.prog 42 #[.slice D hs.length c, .agg #[.int .i64 a, .int .i64 b], .string s, .string t] w fun e w' => ∃ E ce gs, e = .returned (.tuple #[.slice E gs.length ce, .int .i64 (colC [L] true [s, t] a b)]) ∧ cards gs = selRes L a b s t ∧ ObD w' w.heap.size w'.heap.size 37 2 E ce gs ∧ Below w.heap.size w w' := by
  subst hL
  obtain ⟨W, hW⟩ : ∃ W, W = ((((w.alloc (.cells #[.int .i64 a, .int .i64 b] 27)).alloc (.cells #[.string s] 9)).alloc (.cells #[.string t] 9)).alloc (.cells #[.string s, .string t] 9)).alloc (.cells #[.slice D hs.length c] 24) := ⟨_, rfl⟩
  have T0 : Below w.heap.size w W := by rw [hW]; exact ba (ba (ba (ba (ba (b0 w) _) _) _) _) _
  have ra : RdD W W.heap.size D hs := by rw [hW]; exact ((((ha.a1 _).a1 _).a1 _).a1 _).a1 _
  have k1 : W.cell? ⟨w.heap.size, 0, none⟩ = some (.int .i64 a) := by rw [hW]; exact cell_alloc (cell_alloc (cell_alloc (cell_alloc (cell_new rfl rfl) _) _) _) _
  have k2 : W.cell? ⟨w.heap.size, 1, none⟩ = some (.int .i64 b) := by rw [hW]; exact cell_alloc (cell_alloc (cell_alloc (cell_alloc (cell_new rfl rfl) _) _) _) _
  have k3 : W.cell? ⟨w.heap.size + 1, 0, none⟩ = some (.string s) := by rw [hW]; exact cell_alloc (cell_alloc (cell_alloc (cell_new (by simp) rfl) _) _) _
  have k4 : W.cell? ⟨w.heap.size + 1 + 1, 0, none⟩ = some (.string t) := by rw [hW]; exact cell_alloc (cell_alloc (cell_new (by simp) rfl) _) _
  have k5 : W.cell? ⟨w.heap.size + 1 + 1 + 1, 0, none⟩ = some (.string s) := by rw [hW]; exact cell_alloc (cell_new (by simp) rfl) _
  have k6 : W.cell? ⟨w.heap.size + 1 + 1 + 1, 1, none⟩ = some (.string t) := by rw [hW]; exact cell_alloc (cell_new (by simp) rfl) _
  have k7 : W.cell? ⟨w.heap.size + 1 + 1 + 1 + 1, 0, none⟩ = some (.slice D hs.length c) := by rw [hW]; exact cell_new (by simp) rfl
  have rts := rd_str2 k5 k6
  have HW := Lib.hid hW
  have hts : ∀ k (h : k < [s, t].length), [s, t][k].size ≤ 1048576 := by
    intro k h
    match k, h with
    | 0, _ => exact hq1
    | 1, _ => exact hq2
  have HCO := Lib.hid (collateT_any a b (some ⟨w.heap.size + 1 + 1 + 1, 0, none⟩) 2 [s, t] (w.heap.size + 1 + 1 + 1 + 1) D c hs W k7 ra hc hl rts (by simp) hts)
  clear hW k5 k6 k7 rts ha hts
  by_cases hz : colC [cards hs] true [s, t] a b = 0
  · obtain ⟨hk, hlen, hcha⟩ := colC_zero hz
    obtain ⟨h1, h2, h3⟩ := codeK_zero hk
    obtain ⟨i, j, rfl, rfl, hij, hjw⟩ := fieldOk_nat h2
    have HZ := Lib.hid hz
    have H1 := Lib.hid h1
    have H3 := Lib.hid h3
    have HR := Lib.hid (selRes_0 hz)
    simp only [List.all_cons, List.all_nil, Bool.and_true, Bool.and_eq_true] at hlen hcha
    have HLS := Lib.hid (lenB_nat hij hlen.1)
    have HLT := Lib.hid (lenB_nat hij hlen.2)
    have HCS := Lib.hid hcha.1
    have HCT := Lib.hid hcha.2
    clear hz hk h1 h2 h3 hlen hcha
    go_enter Try.func42, Try.ntmps42
    go_wp2_with fail
    rw [← HW.out]
    refine HCO.out.mono ?_; rintro e w1 ⟨rfl, hb1⟩
    have e0 : colC [cards hs] true [s, t] (i : Int) (j : Int) = 0 := HZ.out
    have q1 := cell_later hb1 k1
    have q2 := cell_later hb1 k2
    have q3 := cell_later hb1 k3
    have q4 := cell_later hb1 k4
    have T1 := bs T0 hb1
    have r1 := ra.up hb1
    clear k1 k2 k3 k4 hb1 ra
    go_wp2_with fail
    refine (newDeck_any _ _ hs _ r1 hl).mono ?_; rintro e w2 ⟨E, ce, gs, rfl, hcc, hog, hb2⟩
    clear e0
    have HCC := Lib.hid hcc
    have hgl : gs.length ≤ 1048576 := by have := (cards_same hcc).1; omega
    have hgt : ∀ h ∈ gs, h.xs.length ≤ 1048576 := fun h hh => by have h1 := tot_cards hcc; have h2 := tot_mem hh; omega
    have HCAP := Lib.hid (show ∀ h ∈ gs, h.xs.length ≤ h.c from fun h hh => (hog.rd).cap h hh)
    have HLEG := Lib.hid (show ∀ h ∈ gs, legalL (part h.xs (i : Int) (j : Int)) = true ∧ j ≤ h.xs.length from fun h hh => by
      have hm : h.xs ∈ cards hs := by rw [← hcc]; exact List.mem_map.2 ⟨h, hh, rfl⟩
      obtain ⟨k, hk, e⟩ := List.mem_iff_getElem.1 hm
      rw [← e]
      exact ⟨haveF_at H3.out hk, (part_deck H1.out hij hjw hk).2⟩)
    clear hcc
    go_wp2_with fail
    refine (DeleteFuncCard_any E ce w1.heap.size w2.heap.size gs 155 #[.pointer (some ⟨w.heap.size, 0, none⟩), .pointer (some ⟨w.heap.size + 1, 0, none⟩), .pointer (some ⟨w.heap.size + 1 + 1, 0, none⟩)] (selB s t (i : Int) (j : Int)) _ hog hb2.size hgl Try.call155 (fun h hh w' hbk hrd => SelectBetween1_any _ _ _ h.a h.c h.xs s t i j w' (cell_later (hb2.trans hbk) q1) (cell_later (hb2.trans hbk) q2) (cell_later (hb2.trans hbk) q3) (cell_later (hb2.trans hbk) q4) hrd hij (HLEG.out h hh).2 (HCAP.out h hh) (hgt h hh) (HLEG.out h hh).1 HLS.out HLT.out HCS.out HCT.out)).mono ?_; rintro e w3 ⟨gs3, rfl, hcc3, ho3, hb3⟩
    have HC3 := Lib.hid hcc3
    have hz3 := hb3.size
    clear hcc3
    go_wp2
    go_ret2
    exact ⟨E, ce, gs3, ret_dd HZ.out.symm, by rw [HC3.out, HCC.out, HR.out], ho3.mono T1.size (by first | exact hb3.size | omega), bs T1 (hb2.trans hb3)⟩
  · have HR := Lib.hid (selRes_1 hz)
    have e1 := bne_t hz
    clear hz
    go_enter Try.func42, Try.ntmps42
    go_wp2_with fail
    rw [← HW.out]
    refine HCO.out.mono ?_; rintro e w1 ⟨rfl, hb1⟩
    go_wp2
    go_ret2
    exact ⟨none, 0, [], ret_dd rfl, HR.out.symm, ObD.nil _ _ _ _ _, bs T0 hb1⟩
end Go.Proofs.Ytdppmlchabogaaa

/-! ### SelectBetween, SelectEqual; in the reference; SelectEqual in the program. -/
namespace Go.Proofs.Ytdppmlchabogaaa
open Go.RowKit

/-- Behind k cards. -/
def SeR (L : List (List Int)) (pred : List Int → Bool) (ks : List (List UInt8)) (K : Option Addr) (ck n : Nat) (w wr : World) (o q : Value) : Prop := ∃ (k : Nat) (G : Option Addr) (cg : Nat) (gs : List Hd), k ≤ n ∧ q = .int .i64 k ∧ o = .slice G gs.length cg ∧ gs.length ≤ k ∧ cards gs = keep pred (L.take k) ∧
  ObD wr w.heap.size wr.heap.size 37 2 G cg gs ∧ Ob wr w.heap.size wr.heap.size 9 1 (.slice K n ck) n (strs ks) ∧ Below w.heap.size w wr

/-- One text twice. -/
theorem colC_twice (L : List (List Int)) (a b : Int) (s : ByteArray) : colC [L] true [s, s] a b = colC [L] true [s] a b := by
  unfold colC
  simp
theorem ret_dd2 {E : Option Addr} {n ce : Nat} {a b : Int} (h : a = b) : Ending.returned (.tuple #[.slice E n ce, .int .i64 a]) = .returned (.tuple #[.slice E n ce, .int .i64 b]) := by rw [h]
set_option maxHeartbeats 2000000 in
theorem SelectEqual_any (D : Option Addr) (c : Nat) (hs : List Hd) (L : List (List Int)) (a b : Int) (s : ByteArray) (w : World) (ha : RdD w w.heap.size D hs) (hL : cards hs = L) (hl : hs.length + tot hs ≤ 1048576) (hc : hs.length ≤ c) (hq1 : s.size ≤ 1048576) :
    Calls Try.prog 41 #[.slice D hs.length c, .agg #[.int .i64 a, .int .i64 b], .string s] w fun e w' => ∃ E ce gs, e = .returned (.tuple #[.slice E gs.length ce, .int .i64 (colC [L] true [s] a b)]) ∧ cards gs = selRes L a b s s ∧ ObD w' w.heap.size w'.heap.size 37 2 E ce gs ∧ Below w.heap.size w w' := by
  have T0 : Below w.heap.size w (w.alloc (.cells #[.int .i64 a, .int .i64 b] 27)) := ba (b0 w) _
  have ra := ha.a1 (.cells #[.int .i64 a, .int .i64 b] 27)
  have HL := Lib.hid hL
  have HT := Lib.hid (colC_twice L a b s)
  clear hL
  go_enter Try.func41, Try.ntmps41
  go_wp2_with fail
  refine (SelectBetween_any _ _ hs L a b s s _ ra HL.out hl hc hq1 hq1).mono ?_; rintro e w1 ⟨E, ce, gs, rfl, hcc, hoo, hb1⟩
  have HCC := Lib.hid hcc
  clear hcc
  go_wp2
  go_ret2
  exact ⟨E, ce, gs, ret_dd2 HT.out, HCC.out, hoo.mono T0.size (Nat.le_refl _), bs T0 hb1⟩
end Go.Proofs.Ytdppmlchabogaaa
