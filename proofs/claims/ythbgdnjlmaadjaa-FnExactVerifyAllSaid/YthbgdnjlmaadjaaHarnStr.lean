/- The harness over slices of strings: copies, sizes, equal readings, marks; such slices opened to readings. -/
import Derived.Test.YthbgdnjlmaadjaaHarnInts
import Derived.Test.YthbgdnjlmaadjaaCollate
import Derived.Test.YthbgdnjlmaadjaaLater
import Derived.Test.YthbgdnjlmaadjaaOpen
import Derived.Deep.Strs
namespace Go.Proofs.Ythbgdnjlmaadjaa
open Go.RowKit Go.ChangeShapes Go.WideShapes Go.ChangeAt Go.Deep Go.Joins

theorem info_str : (Try.prog.info? 9).map (fun i => (i.zero, i.size, i.bytes)) = some (some (.string ⟨#[]⟩), 1, 16) := by kernel_rfl
/-- All that the strings hold. -/
def stot (ts : List ByteArray) : Nat := (ts.map ByteArray.size).sum
theorem stot_append (ts us : List ByteArray) : stot (ts ++ us) = stot ts + stot us := by simp [stot]
theorem stot_take_succ (ts : List ByteArray) (k : Nat) (h : k < ts.length) : stot (ts.take (k + 1)) = stot (ts.take k) + ts[k].size := by
  rw [List.take_succ_eq_append_getElem h, stot_append]
  simp [stot]
theorem stot_take_le (ts : List ByteArray) (k : Nat) : stot (ts.take k) ≤ stot ts := by
  have := stot_append (ts.take k) (ts.drop k)
  rw [List.take_append_drop] at this
  omega
theorem stot_mem {ts : List ByteArray} {t : ByteArray} (h : t ∈ ts) : t.size ≤ stot ts := by
  induction ts with
  | nil => cases h
  | cons x ts ih =>
    unfold stot
    rw [List.map_cons, List.sum_cons]
    rcases List.mem_cons.1 h with rfl | h
    · omega
    · have := ih h
      unfold stot at this
      omega
theorem strv_one (ts : List ByteArray) : ∀ u ∈ strv ts, u.oneCell' = true := by
  intro u hu
  obtain ⟨t, _, rfl⟩ := List.mem_map.1 hu
  rfl

theorem szStringS_yes (K : Option Addr) (c : Nat) (ts : List ByteArray) (l : Int) (w : World) (ha : Rd w w.heap.size 1 K ts.length (strv ts)) (h0 : ((ts.length + stot ts : Nat) : Int) ≤ l) (h1 : l ≤ 1048576) :
    Calls Try.prog 61 #[.slice K ts.length c, .int .i64 l] w fun e w' => e = .returned (.int .i64 (l - (ts.length + stot ts : Nat))) ∧ Below w.heap.size w w' := by
  have h2 : ¬ (l - (ts.length : Int) < 0) := by omega
  go_enter Try.func61, Try.ntmps61
  go_wp2
  go_loopw [1, 5] (fun q i wr => ∃ k : Nat, k ≤ ts.length ∧ i = .int .i64 k ∧ q = .int .i64 (l - ts.length - (stot (ts.take k) : Nat)) ∧ Below w.heap.size w wr) (fun _ i _ => ts.length - (intOf i).toNat)
  case atStart => exact ⟨0, Nat.zero_le _, rfl, by simp [stot], b0 _⟩
  case round =>
    obtain ⟨k, hk, rfl, rfl, hbw⟩ := hrel
    by_cases hlt : k < ts.length
    · obtain ⟨b, off, rfl, hbb, hcell⟩ := ha.at_ hlt
      have h3 := (hbw.cell (p := ⟨b, off + k, none⟩) hbb).trans (hcell k _ (strv_get ts k hlt))
      have ht := stot_take_succ ts k hlt
      have hl := stot_take_le ts (k + 1)
      have h4 : ¬ (l - (ts.length : Int) - (stot (ts.take k) : Int) - (ts[k].size : Int) < 0) := by omega
      have hq := Lib.hid ht
      clear hcell ha
      go_wp2
      go_roundw
      case rel => exact ⟨k + 1, by omega, by go_num, by rw [hq.out]; go_num, hbw⟩
      case measure => simp [intOf]; omega
    · obtain rfl : k = ts.length := by omega
      have hq := Lib.hid (show ts.take ts.length = ts from List.take_length)
      go_wp2
      go_ret
      exact ⟨ret_int (by rw [hq.out]; omega), hbw⟩
set_option maxRecDepth 100000 in
theorem szStringS_no (K : Option Addr) (c : Nat) (ts : List ByteArray) (l : Int) (w : World) (ha : Rd w w.heap.size 1 K ts.length (strv ts)) (h0 : ¬ ((ts.length + stot ts : Nat) : Int) ≤ l) (h1 : 0 ≤ l) (hm : ts.length ≤ maxLen ∧ ∀ t ∈ ts, t.size ≤ maxLen) (h3 : l ≤ 1048576) :
    Calls Try.prog 61 #[.slice K ts.length c, .int .i64 l] w fun e w' => e = .returned (.int .i64 (-1)) ∧ Below w.heap.size w w' := by
  obtain ⟨hm1, hm2⟩ := hm
  unfold maxLen at hm1
  by_cases h2 : l < (ts.length : Int)
  · clear ha hm2
    go_enter Try.func61, Try.ntmps61
    go_wp2
    go_ret
    exact ⟨rfl, b0 _⟩
  have h4 : ¬ (l - (ts.length : Int) < 0) := by omega
  go_enter Try.func61, Try.ntmps61
  go_wp2
  go_loopw [1, 5] (fun q i wr => ∃ k : Nat, k ≤ ts.length ∧ i = .int .i64 k ∧ q = .int .i64 (l - ts.length - (stot (ts.take k) : Nat)) ∧ ((ts.length + stot (ts.take k) : Nat) : Int) ≤ l ∧ Below w.heap.size w wr) (fun _ i _ => ts.length - (intOf i).toNat)
  case atStart => exact ⟨0, Nat.zero_le _, rfl, by simp [stot], by simp [stot]; omega, b0 _⟩
  case round =>
    obtain ⟨k, hk, rfl, rfl, hle, hbw⟩ := hrel
    by_cases hlt : k < ts.length
    · obtain ⟨b, off, rfl, hbb, hcell⟩ := ha.at_ hlt
      have h5 := (hbw.cell (p := ⟨b, off + k, none⟩) hbb).trans (hcell k _ (strv_get ts k hlt))
      have ht := stot_take_succ ts k hlt
      have hx := hm2 _ (List.getElem_mem hlt)
      have hq := Lib.hid ht
      unfold maxLen at hx
      clear hcell ha hm2
      by_cases h6 : ((ts.length + stot (ts.take (k + 1)) : Nat) : Int) ≤ l
      · have h7 : ¬ (l - (ts.length : Int) - (stot (ts.take k) : Int) - (ts[k].size : Int) < 0) := by omega
        have h8 := Lib.hid h6
        clear ht h6
        go_wp2
        go_roundw
        case rel => exact ⟨k + 1, by omega, by go_num, by rw [hq.out]; go_num, h8.out, hbw⟩
        case measure => simp [intOf]; omega
      · have h7 : l - (ts.length : Int) - (stot (ts.take k) : Int) - (ts[k].size : Int) < 0 := by omega
        clear ht h6
        go_wp2
        go_ret
        exact ⟨rfl, hbw⟩
    · obtain rfl : k = ts.length := by omega
      rw [show ts.take ts.length = ts from List.take_length] at hle
      omega

set_option maxHeartbeats 1000000 in
theorem eqStringS_L (A A' : Option Addr) (c c' : Nat) (ts : List ByteArray) (w : World) (ha : Rd w w.heap.size 1 A ts.length (strv ts)) (hb : Rd w w.heap.size 1 A' ts.length (strv ts)) (hl : ts.length ≤ 1048576) :
    Calls Try.prog 70 #[.slice A ts.length c, .slice A' ts.length c'] w fun e w' => e = .returned (.bool true) ∧ Below w.heap.size w w' := by
  go_enter Try.func70, Try.ntmps70
  go_wp2
  go_loopw [5] (fun i wr => ∃ k : Nat, k ≤ ts.length ∧ i = .int .i64 k ∧ Below w.heap.size w wr) (fun i _ => ts.length - (intOf i).toNat)
  case atStart => exact ⟨0, Nat.zero_le _, rfl, b0 _⟩
  case round =>
    obtain ⟨k, hk, rfl, hbw⟩ := hrel
    by_cases hlt : k < ts.length
    · obtain ⟨b, off, rfl, _, hc⟩ := (ha.up hbw).at_ hlt
      obtain ⟨b', off', rfl, _, hc'⟩ := (hb.up hbw).at_ hlt
      obtain ⟨t, ht⟩ : ∃ t, t = ts[k] := ⟨_, rfl⟩
      have h1 := hc k _ (strv_get ts k hlt)
      have h2 := hc' k _ (strv_get ts k hlt)
      rw [← ht] at h1 h2
      have hq : (t.toList != t.toList) = false := by simp
      have hq2 : (t.toList == t.toList) = true := by simp
      clear hc hc' ht
      go_wp2
      go_quiet (fail)
      go_wp2
      go_roundw
      case rel => exact ⟨k + 1, by omega, by go_num, below_drewN hbw _⟩
      case measure => simp [intOf]; omega
    · obtain rfl : k = ts.length := by omega
      go_wp2
      go_ret
      exact ⟨rfl, hbw⟩

/-- A copy in new memory. -/
theorem toStringS_any (A : Option Addr) (c : Nat) (ts : List ByteArray) (w : World) (ha : Rd w w.heap.size 1 A ts.length (strv ts)) (hl : ts.length ≤ 1048576) :
    Calls Try.prog 65 #[.slice A ts.length c] w fun e w' => ∃ g, e = .returned (.slice (some ⟨g, 0, none⟩) ts.length ts.length) ∧
      w'.ownsRow w.heap.size 9 1 (.slice (some ⟨g, 0, none⟩) ts.length ts.length) ts.length (strv ts) ∧ Below w.heap.size w w' := by
  obtain ⟨i0, hi, hz0, hz1, hz2⟩ := info_parts info_str
  go_enter Try.func65, Try.ntmps65
  go_wp2_with (at_make; refine wpList_make_full _ rfl _ _ 73 rfl w.heap.size 9 i0 (.string ⟨#[]⟩) 1 Try.underlying73 hi hz0 hz1 _ _ _ _ ts.length rfl rfl rfl rfl (by rw [hz2]; omega) (by unfold maxLen; omega) (Nat.le_refl _) ?_; intro w1 hown1 hgrow1)
  go_loopw [4] (fun i wr => ∃ (k : Nat) (ys : List Value), k ≤ ts.length ∧ i = .int .i64 k ∧ wr.ownsRow w.heap.size 9 1 (.slice (some ⟨w.heap.size, 0, none⟩) ts.length ts.length) ts.length ys ∧ ys.take k = (strv ts).take k ∧ Below w.heap.size w wr)
    (fun i _ => ts.length - (intOf i).toNat)
  case atStart => exact ⟨0, _, Nat.zero_le _, rfl, hown1, by simp, (Below.refl _ _).grown hgrow1 (Nat.le_refl _) (by simp)⟩
  case round =>
    obtain ⟨k, ys, hk, rfl, hown, htk, hbw⟩ := hrel
    by_cases hlt : k < ts.length
    · obtain ⟨b, off, rfl, hb, hc⟩ := ha.at_ hlt
      have h1 := (hbw.cell (p := ⟨b, off + k, none⟩) hb).trans (hc k _ (strv_get ts k hlt))
      have hyl := hown.1
      have hcy : wr.cell? ⟨w.heap.size, k, none⟩ = some ys[k] := by rw [hown.cellAt k (by omega)]; exact List.getElem?_eq_getElem (by omega)
      have hfy := hown.frozenAt k
      have hs := ownsRow_set hown k (.string ts[k])
      have hbs := hbw.setCell (p := ⟨w.heap.size, k, none⟩) (Nat.le_refl _) (.string ts[k])
      have hts := Lib.hid (take_step htk (by omega) (strv_get ts k hlt))
      clear hc ha htk hown1 hgrow1
      go_wp2
      go_roundw
      case rel => exact ⟨k + 1, _, by omega, by go_num, hs, hts.out, hbs⟩
      case measure => simp [intOf]; omega
    · have hke : k = ts.length := by omega
      subst hke
      have he := take_done htk (by rw [hown.1]; omega) (strv_length ts)
      subst he
      clear htk
      go_wp2
      go_ret
      exact ⟨_, rfl, hown, hbw⟩

set_option maxRecDepth 20000 in
set_option maxHeartbeats 2000000 in
/-- A mark is some text. -/
theorem markText_any (k : Int) (w : World) (h0 : 1 ≤ k) (h1 : k ≤ 1099511627776) :
    Calls Try.prog 141 #[.int .i64 k] w fun e w' => ∃ t : ByteArray, e = .returned (.string t) ∧ Below w.heap.size w w' := by
  have hk0 : decide (k ≤ 0) = false := decide_eq_false (by omega)
  go_enter Try.func141, Try.ntmps141
  go_wp2
  go_loopw [0, 3] (fun q o wr => ∃ (j : Nat) (s : ByteArray) (m : Nat), q = .int .i64 j ∧ o = .string s ∧ (j : Int) ≤ 1099511627776 ∧ j < 10 ^ m ∧ s.size + m = 13 ∧ Below w.heap.size w wr) (fun q _ _ => (intOf q).toNat)
  case atStart => exact ⟨k.toNat, ⟨#[]⟩, 13, by rw [Int.toNat_of_nonneg (by omega)], rfl, by omega, by omega, rfl, b0 _⟩
  case round =>
    obtain ⟨j, s, m, rfl, rfl, hj40, hj, hsm, hbw⟩ := hrel
    by_cases hj0 : 0 < j
    · obtain ⟨wo, rfl⟩ : ∃ wo : World, wo = wr := ⟨_, rfl⟩
      have i1 : (0 : Int) < (j : Int) := by omega
      obtain ⟨m', rfl⟩ : ∃ m', m = m' + 1 := by
        cases m with
        | zero => simp at hj; omega
        | succ m => exact ⟨m, rfl⟩
      have hj' : j / 10 < 10 ^ m' := by rw [Nat.pow_succ] at hj; omega
      obtain ⟨d, hd⟩ : ∃ d, d = j % 10 := ⟨_, rfl⟩
      have hd10 : d < 10 := by omega
      have HSM := Lib.hid (show s.size + (m' + 1) = 13 from hsm)
      have HT := Lib.hid (ba hbw (.cells #[.int .u8 (48 + (d : Int))] 5))
      have hconv := conv_text (s := [UInt8.ofNat (48 + d)]) (n := 1) (cap := 1) (base := wo.heap.size) (g := wo.heap.size) (by
        have := own_lit wo #[.int .u8 (48 + (d : Int))] 1 (base := wo.heap.size) (e := 5) (size := 1) rfl (Nat.le_refl _) (by omega) rfl
        have e : byts [UInt8.ofNat (48 + d)] = (#[Value.int .u8 (48 + (d : Int))]).toList := by
          simp [byts]
          omega
        rw [e]
        exact this)
      have hm1 : (j : Int).tmod 10 = (d : Int) := by rw [hd]; exact (Int.ofNat_tmod j 10).symm
      have hm2 : (j : Int) % 10 = (d : Int) := by rw [hd]; omega
      obtain ⟨q, hq⟩ : ∃ q, q = j / 10 := ⟨_, rfl⟩
      rw [← hq] at hj'
      have HJ := Lib.hid hj'
      have HQJ := Lib.hid (show q < j by omega)
      have hq40 : (q : Int) ≤ 1099511627776 := by omega
      have hq1 : (j : Int).tdiv 10 = (q : Int) := by rw [hq]; exact (Int.ofNat_tdiv j 10).symm
      have hq2 : (j : Int) / 10 = (q : Int) := by omega
      obtain ⟨Bt, hBt⟩ : ∃ Bt, Bt = bs_ [UInt8.ofNat (48 + d)] := ⟨_, rfl⟩
      rw [← hBt] at hconv
      have hb1 : Bt.size = 1 := by rw [hBt]; rfl
      have HB1 := Lib.hid hb1
      have hno : ¬ 9223372036854775807 < Bt.size + s.size := by omega
      clear hd hj hsm hj' hq hBt hb1
      go_wp2
      go_roundw
      case rel =>
        have P : ∃ (j' : Nat) (s' : ByteArray) (m : Nat), (Value.int .i64 (q : Int)) = .int .i64 j' ∧ (Value.string (Bt ++ s)) = .string s' ∧ (j' : Int) ≤ 1099511627776 ∧ j' < 10 ^ m ∧ s'.size + m = 13 ∧ Below w.heap.size w (wo.alloc (.cells #[.int .u8 (48 + (d : Int))] 5)) := ⟨q, Bt ++ s, m', rfl, rfl, hq40, HJ.out, by rw [ByteArray.size_append]; have := HB1.out; have := HSM.out; omega, HT.out⟩
        first | exact P | exact ⟨_, P, rfl⟩ | exact ⟨_, _, P, rfl, rfl⟩ | exact ⟨_, _, _, P, rfl, rfl, rfl⟩ | exact ⟨_, _, _, _, P, rfl, rfl, rfl, rfl⟩ | exact ⟨_, _, _, _, _, P, rfl, rfl, rfl, rfl, rfl⟩ | exact ⟨_, _, _, _, _, _, P, rfl, rfl, rfl, rfl, rfl, rfl⟩ | exact ⟨_, _, _, _, _, _, _, P, rfl, rfl, rfl, rfl, rfl, rfl, rfl⟩ | exact ⟨_, _, _, _, _, _, _, _, P, rfl, rfl, rfl, rfl, rfl, rfl, rfl, rfl⟩
      case measure =>
        have := HQJ.out
        simp [intOf]
        omega
    · obtain rfl : j = 0 := by omega
      have hno : ¬ 9223372036854775807 < 1 + s.size := by omega
      go_wp2
      go_ret
      exact ⟨_, rfl, hbw⟩
/-- markStringS writes texts into a row of the call's own; nothing else turns. -/
theorem markStringS_any (A : Option Addr) (n c lo hi : Nat) (ys : List Value) (k : Int) (w : World) (ho : Ob w lo hi 9 1 (.slice A n c) n ys) (hn : n ≤ 1048576) (h0 : 1 ≤ k) (h1 : k ≤ 549755813888) (hlo : hi ≤ w.heap.size) :
    Calls Try.prog 73 #[.slice A n c, .int .i64 k] w fun e w' => e = .returned (.int .i64 (k + n)) ∧ (∃ zs, Ob w' lo hi 9 1 (.slice A n c) n zs) ∧ Chg lo hi w w' := by
  go_enter Try.func73, Try.ntmps73
  go_wp2
  go_loopw [1, 5] (fun q i wr => ∃ (j : Nat) (zs : List Value), j ≤ n ∧ i = .int .i64 j ∧ q = .int .i64 (k + j) ∧ Ob wr lo hi 9 1 (.slice A n c) n zs ∧ Chg lo hi w wr)
    (fun _ i _ => n - (intOf i).toNat)
  case atStart => exact ⟨0, ys, Nat.zero_le _, rfl, by go_num, ho, Chg.refl _ _ _⟩
  case round =>
    obtain ⟨wo, rfl⟩ : ∃ wo : World, wo = wr := ⟨_, rfl⟩
    obtain ⟨j, zs, hj, rfl, rfl, hown, hch⟩ := hrel
    by_cases hlt : j < n
    · obtain ⟨g, rfl, hg, hglt⟩ := own_at hown.1 hlt
      have i1 : (j : Int) < (n : Int) := by omega
      have HOWN := Lib.hid hown
      have HCH := Lib.hid hch
      have hz := hch.size
      have hgh := hown.2 g rfl
      clear hown hch
      go_wp2_with fail
      refine (markText_any (k + (j : Int)) _ (by omega) (by omega)).mono ?_
      rintro e w2 ⟨t, rfl, hb2⟩
      have hown2 := HOWN.out.bs hb2
      have HCH2 := Lib.hid (HCH.out.trans (Chg.of_below hb2))
      have hyl := hown2.1.1
      have hcy : w2.cell? ⟨g, j, none⟩ = some zs[j] := by rw [hown2.1.cellAt j (by omega)]; exact List.getElem?_eq_getElem (by omega)
      have hfy := hown2.1.frozenAt j
      have hs := hown2.1.stored j (.string t)
      have HO := Lib.hid (show Ob (w2.setCell ⟨g, j, none⟩ (.string t)) lo hi 9 1 (.slice (some ⟨g, 0, none⟩) n c) n (zs.set j (.string t)) from ⟨hs.1, hown2.2⟩)
      have HC := Lib.hid (HCH2.out.trans (hown2.turns hs.2))
      clear hown2 hs hb2
      go_wp2
      go_roundw
      case rel => exact ⟨j + 1, _, by omega, by go_num, by go_num, HO.out, HC.out⟩
      case measure => simp [intOf]; omega
    · obtain rfl : j = n := by omega
      go_wp2
      go_ret
      exact ⟨rfl, ⟨zs, hown⟩, hch⟩

section
variable {H : Type} {enc : TypeId × Value → H} {P : Program} {w : World}
/-- A slice of strings comes in. -/
theorem in_strs {t e : TypeId} {v : Value} {d : DataW H} {p : List MemPlace} {r : Reach} {b0 : Nat} (ht : P.underlying t = some (.slice e)) (he : P.underlying e = some .string) (hc : P.cellsOf e = 1) (hv : Value.okWide P w r b0 t v) (h : DataW.Trod enc P w 0 (fun _ => true) true t v d p) :
    ∃ A c ts, v = .slice A (List.length ts) c ∧ ts.length ≤ c ∧ c ≤ maxLen ∧ Rd w w.heap.size 1 A ts.length (strv ts) ∧ ∀ t ∈ ts, ByteArray.size t ≤ maxLen := by
  obtain ⟨a0, len, cap, rfl⟩ := okWide_slice ht hv
  obtain ⟨fuel, hf⟩ := h
  rcases open_strs ht he hc hf with ⟨hcs, _⟩ | ⟨a, len', cap', m, Sx, hcs, _, hl, hm, hmm, _, hi⟩
  · simp only [Value.cells, List.cons.injEq, and_true] at hcs
    rw [hcs]
    exact ⟨none, 0, [], rfl, Nat.le_refl _, Nat.zero_le _, Rd.nil _ _ _ _, by simp⟩
  · simp only [Value.cells, List.cons.injEq, and_true] at hcs
    rw [hcs]
    simp only [if_true] at hmm
    have hll : ((List.range len').map Sx).length = len' := by simp
    refine ⟨some a, cap', (List.range len').map Sx, by rw [hll], by omega, hm, ⟨by rw [strv_length, Nat.mul_one], fun hn => ?_⟩, fun t ht => ?_⟩
    · rw [hll] at hn
      obtain ⟨b, off, spot⟩ := a
      have hc0 := (hi 0 (by omega)).1
      have hspot : spot = none := by simpa [Addr.add] using World.cell?_spot hc0
      subst hspot
      refine ⟨b, off, rfl, by simpa [Addr.add] using World.block_lt_of_cell? _ _ hc0, fun j u hu => ?_⟩
      have hj : j < ((List.range len').map Sx).length := by
        have := (List.getElem?_eq_some_iff.1 hu).1
        rwa [strv_length] at this
      rw [strv_get _ j hj] at hu
      injection hu with hu
      subst hu
      have := (hi j (by omega)).1
      rw [Go.WideShapes.add_plain] at this
      rw [this]
      simp
    · obtain ⟨i, hi', rfl⟩ := List.mem_map.1 ht
      exact (hi i (by have := List.mem_range.1 hi'; omega)).2
end
end Go.Proofs.Ythbgdnjlmaadjaa
