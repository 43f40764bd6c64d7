/- Texts for a field: punching, comparing, the codes; in the program and in the reference. -/
import Derived.Test.YtabdlbaonjhnnaaCollate
import Derived.Test.YtabdlbaonjhnnaaKeys3
import Derived.Test.YtabdlbaonjhnnaaLace
import Derived.RegionTactic
import Derived.Deep.RegionHeld3
namespace Go.Proofs.Ytabdlbaonjhnnaa
open Go.RowKit

/-- The columns of a text. -/
def punL (s : ByteArray) : List Int := (byt s).map fun c => codeV c.toNat
theorem punL_length (s : ByteArray) : (punL s).length = s.size := by unfold punL; rw [List.length_map, byt_size]
theorem rankM_code : ∀ c : UInt8, chB c = true → rankM (codeV c.toNat) = rankC c := by
  intro c
  have h : ∀ n : Fin 256, chB (UInt8.ofNat n.val) = true → rankM (codeV (UInt8.ofNat n.val).toNat) = rankC (UInt8.ofNat n.val) := by decide +kernel
  have := h ⟨c.toNat, UInt8.toNat_lt c⟩
  simpa using this
theorem rankC_inj : ∀ a b : UInt8, chB a = true → chB b = true → rankC a = rankC b → a = b := by
  have h : ∀ a : UInt8, chB a = true → charL.getD (rankC a).toNat 0 = a := by
    intro c
    have h : ∀ n : Fin 256, chB (UInt8.ofNat n.val) = true → charL.getD (rankC (UInt8.ofNat n.val)).toNat 0 = UInt8.ofNat n.val := by decide +kernel
    have := h ⟨c.toNat, UInt8.toNat_lt c⟩
    simpa using this
  intro a b ha hb e
  rw [← h a ha, ← h b hb, e]
theorem punL_ranks {s : ByteArray} (h : chaB s = true) : (punL s).map rankM = (byt s).map rankC := by
  unfold punL
  rw [List.map_map]
  apply List.map_congr_left
  intro c hc
  exact rankM_code c (List.all_eq_true.1 h c hc)
theorem cmp_text {xs : List Int} {s : ByteArray} (hx : legalL xs = true) (hs : chaB s = true) : cmpR xs (punL s) = cmpT (textL xs) (byt s) := by
  unfold cmpR cmpT
  rw [punL_ranks hs, textL_ranks hx]
theorem textL_ch {xs : List Int} (h : legalL xs = true) : (textL xs).all chB = true := by
  rw [List.all_eq_true]
  intro c hc
  obtain ⟨m, hm, rfl⟩ := List.mem_map.1 hc
  have h0 : 0 ≤ rankM m := by simpa [legalM] using List.all_eq_true.1 h m hm
  have h1 := (rankM_range m).2
  obtain ⟨k, hk⟩ : ∃ k : Nat, rankM m = k := ⟨(rankM m).toNat, by omega⟩
  have hk40 : k < 40 := by omega
  rw [charM_of hk40 hk]
  have := (char_code k hk40).1
  unfold chB
  exact decide_eq_true this
theorem cmpT_eq {s t : List UInt8} (hs : s.all chB = true) (ht : t.all chB = true) (hl : s.length = t.length) : (cmpT s t = 0) ↔ s = t := by
  unfold cmpT
  rw [cmpN_zero (by simpa using hl)]
  constructor
  · intro h
    apply List.ext_getElem hl
    intro i h1 h2
    have h3 := congrArg (fun l => l[i]?) h
    simp only [List.getElem?_map, List.getElem?_eq_getElem h1, List.getElem?_eq_getElem h2, Option.map_some, Option.some.injEq] at h3
    exact rankC_inj _ _ (List.all_eq_true.1 hs _ (List.getElem_mem h1)) (List.all_eq_true.1 ht _ (List.getElem_mem h2)) h3
  · intro h
    rw [h]

theorem codeO_ch {c : UInt8} (h : chB c = true) : codeO c.toNat = codeV c.toNat := by
  have : 0 ≤ codeV c.toNat := by simpa [chB] using h
  unfold codeO
  rw [if_pos this]
theorem codeOf_z (c : UInt8) (z : Int) (w : World) (hz : z = codeV c.toNat) (h : chB c = true) :
    Calls Try.prog 175 #[.int .u8 (c.toNat : Int)] w fun e w' => e = .returned (.int .i64 z) ∧ w = w' := by
  rw [hz, ← codeO_ch h]
  exact codeOf_any c.toNat (Nat.le_of_lt_succ (UInt8.toNat_lt c)) w
theorem chaB_at {s : ByteArray} (h : chaB s = true) {k : Nat} (hk : k < s.size) : chB s[k] = true := by
  have := List.all_eq_true.1 h ((byt s)[k]'(by rw [byt_size]; exact hk)) (List.getElem_mem _)
  exact this
theorem punL_at {s : ByteArray} {k : Nat} (hk : k < s.size) : (ints (punL s))[k]? = some (.int .i64 (codeV s[k].toNat)) := by
  have h1 : k < (punL s).length := by rw [punL_length]; exact hk
  have h2 : (punL s)[k]'h1 = codeV s[k].toNat := by
    simp only [punL, List.getElem_map]
    rfl
  rw [ints_get _ k h1, h2]

set_option maxRecDepth 100000 in
set_option maxHeartbeats 4000000 in
theorem punchText_any (s : ByteArray) (n : Nat) (w : World) (hn : s.size = n) (hn1 : 0 < n) (hl : n ≤ 1048576) (hch : chaB s = true) :
    Calls Try.prog 136 #[.string s, .int .i64 (n : Int)] w fun e w' => ∃ G, e = .returned (.agg #[.slice G n n]) ∧ w'.ownsRow w.heap.size 2 1 (.slice G n n) n (ints (punL s)) ∧ Below w.heap.size w w' := by
  have HN := Lib.hid hn
  have HCH := Lib.hid hch
  have HPL := Lib.hid (punL_length s)
  clear hn hch
  have T0 : Below w.heap.size w (w.alloc (.cells #[.slice none 0 0] 62)) := ba (b0 w) _
  go_enter Try.func136, Try.ntmps136
  go_wp2_with fail
  refine (blank_any n _ hl).mono ?_; rintro e w2 ⟨B, rfl, ho, hb2⟩
  obtain ⟨g, rfl, hg, hglt⟩ := own_at ho hn1
  have k2 : w2.cell? ⟨w.heap.size, 0, none⟩ = some (.slice none 0 0) := cell_later hb2 (cell_new rfl rfl)
  have f2 : w2.frozen? ⟨w.heap.size, 0, none⟩ = false := froz_later hb2 (froz_new rfl) (by simp)
  have hz2 := hb2.size
  simp only [World.size_alloc] at hz2 hg
  have T2 := bs T0 hb2
  have T3 : Below w.heap.size w (w2.alloc (.cells #[.slice (some ⟨g, 0, none⟩) n n] 62)) := ba T2 _
  have ho3 := ho.alloc (.cells #[.slice (some ⟨g, 0, none⟩) n n] 62)
  have k3 : (w2.alloc (.cells #[.slice (some ⟨g, 0, none⟩) n n] 62)).cell? ⟨w2.heap.size, 0, none⟩ = some (.slice (some ⟨g, 0, none⟩) n n) := cell_new rfl rfl
  have k2' := cell_alloc k2 (.cells #[.slice (some ⟨g, 0, none⟩) n n] 62)
  have f2' := froz_alloc f2 (by omega) (.cells #[.slice (some ⟨g, 0, none⟩) n n] 62)
  have hgne : ¬ g = w2.heap.size := by omega
  have hgne2 : ¬ g = w.heap.size := by omega
  clear ho hb2 k2 f2 T0 T2
  go_wp2
  go_loopw [6] (fun q wr => ∃ (k : Nat) (ys : List Value), k ≤ n ∧ q = .int .i64 k ∧ wr.ownsRow (w.heap.size + 1) 2 1 (.slice (some ⟨g, 0, none⟩) n n) n ys ∧ ys.take k = (ints (punL s)).take k ∧ Below w.heap.size w wr ∧
    wr.cell? ⟨w2.heap.size, 0, none⟩ = some (.slice (some ⟨g, 0, none⟩) n n) ∧ wr.cell? ⟨w.heap.size, 0, none⟩ = some (.slice none 0 0) ∧ wr.frozen? ⟨w.heap.size, 0, none⟩ = false) (fun q _ => n - (intOf q).toNat)
  case atStart => exact ⟨0, _, Nat.zero_le _, rfl, by simpa using ho3, by simp, T3, k3, k2', f2'⟩
  case round =>
    obtain ⟨wo, rfl⟩ : ∃ wo : World, wo = wr := ⟨_, rfl⟩
    obtain ⟨k, ys, hk, rfl, hown, htk, hbw, c3, c2, fr2⟩ := hrel
    have HTK := Lib.hid htk
    have HYL := Lib.hid (show ys.length = n by have := hown.1; rwa [Nat.mul_one] at this)
    have hnsz : n ≤ s.size := by rw [HN.out]; exact Nat.le_refl _
    have hszn : s.size ≤ n := by rw [HN.out]; exact Nat.le_refl _
    clear htk
    by_cases hlt : k < n
    · have hks : k < s.size := by omega
      obtain ⟨z, hz⟩ : ∃ z, z = codeV (s[k]'hks).toNat := ⟨_, rfl⟩
      have HZ := Lib.hid hz
      have HCK := Lib.hid (chaB_at HCH.out hks)
      have hky : k < ys.length := by rw [HYL.out]; exact hlt
      have HT2 := Lib.hid (take_step (u := .int .i64 z) HTK.out hky (by rw [hz]; exact punL_at hks))
      have cy := own_cell hown k hky
      have fy := hown.frozenAt k
      have hst := ownsRow_set hown k (.int .i64 z)
      have i1 : (k : Int) < (s.size : Int) := by omega
      have i2 : (k : Int) < (n : Int) := by omega
      have HST := Lib.hid hst
      clear hz hst
      go_wp2
      go_region_with (go_at_call 175; refine (codeOf_z (s[k]'hks) z _ HZ.out HCK.out).mono ?_; rintro e w9 ⟨rfl, rfl⟩)
      all_goals
        go_wp2
        go_roundw
        case rel => exact ⟨k + 1, _, by omega, by go_num, HST.out, HT2.out, (bset hbw _ _ _ (by omega)).drew, set_far c3 hgne, set_far c2 hgne2, set_far_f fr2 hgne2⟩
        case measure => simp [intOf]; omega
    · obtain rfl : k = n := by omega
      have HE := Lib.hid (take_done HTK.out HYL.out (by rw [ints_length, HPL.out]; exact HN.out))
      go_wp2
      refine bodyPost_ret (v := .agg #[.slice (some ⟨g, 0, none⟩) k k]) (by simp [results, Try.results136, go_sem, *]) rfl ?_
      refine ⟨some ⟨g, 0, none⟩, rfl, ?_, bset hbw _ _ _ (Nat.le_refl _)⟩
      rw [← HE.out]
      exact own_base (own_below hown _ _ _ (by omega)) (by omega)
end Go.Proofs.Ytabdlbaonjhnnaa
