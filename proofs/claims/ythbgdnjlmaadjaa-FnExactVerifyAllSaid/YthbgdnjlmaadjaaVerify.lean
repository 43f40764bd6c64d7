/- The first column that differs, and the code of a program card and cards; in the program and in the reference. -/
import Derived.Test.YthbgdnjlmaadjaaPunch2
import Derived.Test.YthbgdnjlmaadjaaDecks
import Derived.Deep.QuietTactic
namespace Go.Proofs.Ythbgdnjlmaadjaa
open Go.RowKit

/-! ### plain -/
def wrgO (L ys : List Int) (i : Nat) : Option Int := if ys.getD i 0 = L.getD i 0 then none else some (i : Int)
def wrgI (L ys : List Int) (n : Nat) : Int := ((List.range n).findSome? (wrgO L ys)).getD (-1)
def NoW (L ys : List Int) (k : Nat) : Prop := ∀ j, j < k → ys.getD j 0 = L.getD j 0
theorem NoW.zero (L ys : List Int) : NoW L ys 0 := fun j h => absurd h (Nat.not_lt_zero j)
theorem NoW.succ {L ys : List Int} {k : Nat} (h : NoW L ys k) (hk : ys.getD k 0 = L.getD k 0) : NoW L ys (k + 1) := by
  intro j hj
  rcases Nat.lt_succ_iff_lt_or_eq.1 hj with hj | rfl
  · exact h j hj
  · exact hk
theorem wrg_some {L ys : List Int} {n k : Nat} (hk : k < n) (h : NoW L ys k) (hne : ¬ ys.getD k 0 = L.getD k 0) : wrgI L ys n = (k : Int) := by
  unfold wrgI
  rw [ff_some hk (fun j hj => by unfold wrgO; rw [if_pos (h j hj)]) (show wrgO L ys k = some (k : Int) by unfold wrgO; rw [if_neg hne])]
  rfl
theorem wrg_none {L ys : List Int} {n : Nat} (h : NoW L ys n) : wrgI L ys n = -1 := by
  unfold wrgI
  have : (List.range n).findSome? (wrgO L ys) = none := by
    rw [List.findSome?_eq_none_iff]
    intro j hj
    unfold wrgO
    rw [if_pos (h j (List.mem_range.1 hj))]
  rw [this]
  rfl
def verV (s : ByteArray) (xs : List Int) (t : ByteArray) (ys : List Int) : Int := if chkC s t = 0 then wrgI (pchL s xs t) ys s.size else 0
theorem ret_vv {a b c d : Int} (h : a = b) (k : c = d) : Ending.returned (.tuple #[.int .i64 a, .int .i64 c]) = .returned (.tuple #[.int .i64 b, .int .i64 d]) := by rw [h, k]
theorem getD_of {xs : List Int} {k : Nat} (h : k < xs.length) : xs.getD k 0 = xs[k] := by simp [List.getD, List.getElem?_eq_getElem h]

set_option maxRecDepth 100000 in
set_option maxHeartbeats 8000000 in
theorem verified_any (s t : ByteArray) (A : Option Addr) (c : Nat) (xs : List Int) (C : Option Addr) (d : Nat) (ys : List Int) (w : World) (hp : progB s = true) (hx : xs.length = s.size) (hy : ys.length = s.size)
    (ha : Rd w w.heap.size 1 A s.size (ints xs)) (hb : Rd w w.heap.size 1 C s.size (ints ys)) (ht : t.size ≤ 1048576) :
    Calls Try.prog 133 #[.string s, .agg #[.slice A s.size c], .agg #[.slice C s.size d], .string t] w fun e w' => e = .returned (.tuple #[.int .i64 (verV s xs t ys), .int .i64 (chkC s t)]) ∧ Below w.heap.size w w' := by
  obtain ⟨hs1, hs20⟩ := progB_len hp
  obtain ⟨W, hW⟩ : ∃ W, W = (w.alloc (.cells #[.slice A s.size c] 26)).alloc (.cells #[.slice C s.size d] 26) := ⟨_, rfl⟩
  have T0 : Below w.heap.size w W := by rw [hW]; exact ba (ba (b0 w) _) _
  have ra : Rd W W.heap.size 1 A s.size (ints xs) := by rw [hW]; exact (ha.a1 _).a1 _
  have rb : Rd W W.heap.size 1 C s.size (ints ys) := by rw [hW]; exact (hb.a1 _).a1 _
  have k1 : W.cell? ⟨w.heap.size, 0, none⟩ = some (.slice A s.size c) := by rw [hW]; exact cell_alloc (cell_new rfl rfl) _
  have k2 : W.cell? ⟨w.heap.size + 1, 0, none⟩ = some (.slice C s.size d) := by rw [hW]; exact cell_new (by simp) rfl
  have HW := Lib.hid hW
  have HY := Lib.hid hy
  have HPU := Lib.hid (punched_any s t A c xs W hp hx ra ht)
  clear hW ha hb hp hx hy
  obtain ⟨z, hz⟩ : ∃ z, z = chkC s t := ⟨_, rfl⟩
  by_cases h0 : z = 0
  · have HR := Lib.hid (pchR_0 (xs := xs) (show chkC s t = 0 by rw [← hz, h0]))
    have HV := Lib.hid (show verV s xs t ys = wrgI (pchL s xs t) ys s.size by unfold verV; rw [if_pos (by rw [← hz, h0])])
    rw [HR.out, pchL_length, ← hz, h0] at HPU
    have HZ := Lib.hid hz
    have HL := Lib.hid (pchL_length s xs t)
    subst h0
    clear hz
    go_enter Try.func133, Try.ntmps133
    go_wp2_with fail
    rw [← HW.out]
    refine HPU.out.mono ?_
    rintro e w1 ⟨B, g, rfl, ho, hb1⟩
    have T1 := bs T0 hb1
    have k1' := cell_later hb1 k1
    have k2' := cell_later hb1 k2
    have rb1 := rb.up hb1
    have ro := (Ob.of ho).rd
    have TB := ba (b0 w1) (.cells #[.slice B s.size g] 26)
    have q3 := cell_new (w := w1) (cs := #[.slice B s.size g]) (e := 26) (j := 0) (H := w1.heap.size) rfl rfl
    have q2 := cell_later TB k2'
    have rb2 := rb1.up TB
    have ro2 := ro.up TB
    have T2 := bs T1 TB
    clear ho hb1 k1 k2 k1' k2' rb1 ro TB ra rb
    go_wp2
    go_loop [12, 13, 27] (fun _ _ q => ∃ k : Nat, k ≤ s.size ∧ q = .int .i64 k ∧ NoW (pchL s xs t) ys k) (fun _ _ q => s.size - (intOf q).toNat)
    case atStart => exact ⟨0, Nat.zero_le _, rfl, NoW.zero _ _⟩
    case round =>
      obtain ⟨k, hk, rfl, hno⟩ := hrel
      have HNO := Lib.hid hno
      clear hno
      by_cases hlt : k < s.size
      · have i1 : (k : Int) < (s.size : Int) := by omega
        have hkl : k < (pchL s xs t).length := by rw [HL.out]; exact hlt
        have hky : k < ys.length := by rw [HY.out]; exact hlt
        obtain ⟨b, off, hB, _, hc⟩ := ro2.at_ hlt
        obtain ⟨b', off', hC, _, hc'⟩ := rb2.at_ hlt
        subst hB hC
        have d1 := hc k _ (ints_get _ k hkl)
        have d2 := hc' k _ (ints_get _ k hky)
        have HE1 := Lib.hid (getD_of hkl)
        have HE2 := Lib.hid (getD_of hky)
        obtain ⟨u, hu⟩ : ∃ u, u = (pchL s xs t)[k] := ⟨_, rfl⟩
        obtain ⟨v, hv⟩ : ∃ v, v = ys[k] := ⟨_, rfl⟩
        rw [← hu] at d1 HE1
        rw [← hv] at d2 HE2
        clear hc hc' hu hv
        by_cases huv : v = u
        · have HN2 := Lib.hid (HNO.out.succ (by rw [HE1.out, HE2.out, huv]))
          have n1 : (v != u) = false := bne_f huv
          clear huv
          go_wp2
          go_round
          case rel =>
            have P : ∃ k' : Nat, k' ≤ s.size ∧ (Value.int .i64 ((k : Int) + 1)) = .int .i64 k' ∧ NoW (pchL s xs t) ys k' := ⟨k + 1, by omega, by go_num, HN2.out⟩
            first | exact P | exact ⟨_, P, rfl⟩ | exact ⟨_, _, P, rfl, rfl⟩ | exact ⟨_, _, _, P, rfl, rfl, rfl⟩ | exact ⟨_, _, _, _, P, rfl, rfl, rfl, rfl⟩ | exact ⟨_, _, _, _, _, P, rfl, rfl, rfl, rfl, rfl⟩ | exact ⟨_, _, _, _, _, _, P, rfl, rfl, rfl, rfl, rfl, rfl⟩ | exact ⟨_, _, _, _, _, _, _, P, rfl, rfl, rfl, rfl, rfl, rfl, rfl⟩ | exact ⟨_, _, _, _, _, _, _, _, P, rfl, rfl, rfl, rfl, rfl, rfl, rfl, rfl⟩
          case measure => (simp [intOf]; try omega)
        · have HWR := Lib.hid (wrg_some hlt HNO.out (by rw [HE1.out, HE2.out]; exact huv))
          have n1 : (v != u) = true := bne_t huv
          clear huv
          go_wp2
          go_ret2
          exact ⟨ret_vv (HV.out.trans HWR.out).symm HZ.out, T2⟩
      · obtain rfl : k = s.size := by omega
        have HWR := Lib.hid (wrg_none HNO.out)
        go_wp2
        go_ret2
        exact ⟨ret_vv (HV.out.trans HWR.out).symm HZ.out, T2⟩
  · have HR := Lib.hid (pchR_1 (xs := xs) (show ¬ chkC s t = 0 by rw [← hz]; exact h0))
    have HV := Lib.hid (show verV s xs t ys = 0 by unfold verV; rw [if_neg (by rw [← hz]; exact h0)])
    rw [HR.out, ← hz] at HPU
    have n0 : (z != 0) = true := bne_t h0
    have HZ := Lib.hid hz
    clear hz
    go_enter Try.func133, Try.ntmps133
    go_wp2_with fail
    rw [← HW.out]
    refine HPU.out.mono ?_
    rintro e w1 ⟨B, g, rfl, ho, hb1⟩
    go_wp2
    go_ret2
    exact ⟨ret_vv HV.out.symm HZ.out, ba (bs T0 hb1) _⟩

set_option maxRecDepth 100000 in
set_option maxHeartbeats 8000000 in
theorem l05Wrong_any (s t : ByteArray) (p o : Nat) (A : Option Addr) (c : Nat) (xs : List Int) (p2 o2 : Nat) (C : Option Addr) (d : Nat) (ys : List Int) (w : World) (hp : progB s = true) (hx : xs.length = s.size) (hy : ys.length = s.size)
    (hc1 : w.cell? ⟨p, o, none⟩ = some (.slice A s.size c)) (hc2 : w.cell? ⟨p2, o2, none⟩ = some (.slice C s.size d)) (ha : Rd w w.heap.size 1 A s.size (ints xs)) (hb : Rd w w.heap.size 1 C s.size (ints ys)) (hz : t.size = keysN s) :
    Calls Try.prog 134 #[.string s, .pointer (some ⟨p, o, none⟩), .pointer (some ⟨p2, o2, none⟩), .string t] w fun e w' => e = .returned (.int .i64 (wrgI (pchL s xs t) ys s.size)) ∧ Below w.heap.size w w' := by
  obtain ⟨hs1, hs20⟩ := progB_len hp
  have HPU := Lib.hid (l05Punch_any s t p o A c xs w hp hx hc1 ha hz)
  have HY := Lib.hid hy
  have HL := Lib.hid (pchL_length s xs t)
  clear hp hx hy hz
  go_enter Try.func134, Try.ntmps134
  go_wp2_with fail
  refine HPU.out.mono ?_
  rintro e w1 ⟨B, g, rfl, ho, hb1⟩
  have k2' := cell_later hb1 hc2
  have rb1 := hb.up hb1
  have ro := (Ob.of ho).rd
  have TB := ba (b0 w1) (.cells #[.slice B s.size g] 26)
  have q3 := cell_new (w := w1) (cs := #[.slice B s.size g]) (e := 26) (j := 0) (H := w1.heap.size) rfl rfl
  have q2 := cell_later TB k2'
  have rb2 := rb1.up TB
  have ro2 := ro.up TB
  have T2 := bs hb1 TB
  clear ho hb1 k2' rb1 ro TB ha hb
  obtain ⟨v1, hv1⟩ : ∃ v1, v1 = w1.alloc (.cells #[.slice B s.size g] 26) := ⟨_, rfl⟩
  rw [← hv1] at q3 q2 rb2 ro2 T2
  go_wp2
  rw [← hv1]
  clear hv1
  go_loopw [10] (fun q wr => ∃ k : Nat, k ≤ s.size ∧ q = .int .i64 k ∧ NoW (pchL s xs t) ys k ∧ Below v1.heap.size v1 wr) (fun q _ => s.size - (intOf q).toNat)
  case atStart => exact ⟨0, Nat.zero_le _, rfl, NoW.zero _ _, b0 _⟩
  case round =>
    obtain ⟨wo, rfl⟩ : ∃ wo : World, wo = wr := ⟨_, rfl⟩
    obtain ⟨k, hk, rfl, hno, hbw⟩ := hrel
    have HNO := Lib.hid hno
    clear hno
    by_cases hlt : k < s.size
    · have i1 : (k : Int) < (s.size : Int) := by omega
      have hkl : k < (pchL s xs t).length := by rw [HL.out]; exact hlt
      have hky : k < ys.length := by rw [HY.out]; exact hlt
      obtain ⟨b, off, hB, _, hc⟩ := (ro2.up hbw).at_ hlt
      obtain ⟨b', off', hC, _, hc'⟩ := (rb2.up hbw).at_ hlt
      subst hB hC
      have d1 := hc k _ (ints_get _ k hkl)
      have d2 := hc' k _ (ints_get _ k hky)
      have d3 := cell_later hbw q3
      have d4 := cell_later hbw q2
      have HE1 := Lib.hid (getD_of hkl)
      have HE2 := Lib.hid (getD_of hky)
      obtain ⟨u, hu⟩ : ∃ u, u = (pchL s xs t)[k] := ⟨_, rfl⟩
      obtain ⟨v, hv⟩ : ∃ v, v = ys[k] := ⟨_, rfl⟩
      rw [← hu] at d1 HE1
      rw [← hv] at d2 HE2
      clear hc hc' hu hv
      by_cases huv : v = u
      · have HN2 := Lib.hid (HNO.out.succ (by rw [HE1.out, HE2.out, huv]))
        have n1 : (u != v) = false := bne_f huv.symm
        clear huv
        go_wp2_with fail
        go_quiet (fail)
        go_wp2
        go_roundw
        case rel =>
          have P : ∀ n : Nat, ∃ k' : Nat, k' ≤ s.size ∧ (Value.int .i64 ((k : Int) + 1)) = .int .i64 k' ∧ NoW (pchL s xs t) ys k' ∧ Below v1.heap.size v1 (wo.drewN n) := fun n => ⟨k + 1, by omega, by go_num, HN2.out, below_drewN hbw n⟩
          first | exact P _ | exact ⟨_, P _, rfl⟩
        case measure => (simp [intOf]; try omega)
      · have HWR := Lib.hid (wrg_some hlt HNO.out (by rw [HE1.out, HE2.out]; exact huv))
        have n1 : (u != v) = true := bne_t (fun e => huv e.symm)
        clear huv
        go_wp2_with fail
        go_quiet (fail)
        go_wp2
        go_ret
        exact ⟨ret_int HWR.out.symm, bs T2 (below_drewN hbw _)⟩
    · obtain rfl : k = s.size := by omega
      have HWR := Lib.hid (wrg_none HNO.out)
      go_wp2
      go_ret
      exact ⟨ret_int HWR.out.symm, bs T2 hbw⟩

/-! ### the code of a program card and cards -/
def widB (s : ByteArray) (x : List Int) : Bool := x.length == s.size
def pgC (s : ByteArray) (v : Bool) (L : List (List Int)) : Int := if progB s = true ∧ v = true ∧ L.all cardOk = true then (if L.all (widB s) = true then 0 else 2) else 1
theorem al_step {α : Type} {p : α → Bool} {l : List α} {k : Nat} (hk : k < l.length) (h : (l.take k).all p = true) (hp : p l[k] = true) : (l.take (k + 1)).all p = true := by
  rw [List.take_succ_eq_append_getElem hk, List.all_append, h]
  simp [hp]
theorem al_bad {α : Type} {p : α → Bool} {l : List α} {k : Nat} (hk : k < l.length) (hp : p l[k] = false) : l.all p = false := List.all_eq_false.2 ⟨l[k], List.getElem_mem hk, by simp [hp]⟩
set_option maxRecDepth 100000 in
set_option maxHeartbeats 8000000 in
theorem programCode_any (s : ByteArray) (v : Bool) (D : Option Addr) (c : Nat) (hs : List Hd) (w : World) (ha : RdD w w.heap.size D hs) (hl : hs.length ≤ 1048577) (hs20 : s.size ≤ 1048576) (hlt : ∀ h ∈ hs, h.xs.length ≤ 1048576) :
    Calls Try.prog 120 #[.string s, .bool v, .slice D hs.length c] w fun e w' => e = .returned (.int .i64 (pgC s v (cards hs))) ∧ Below w.heap.size w w' := by
  have HLT := Lib.hid hlt
  clear hlt
  cases hp : progB s
  · have HC := Lib.hid (show pgC s v (cards hs) = 1 by unfold pgC; rw [if_neg (by simp [hp])])
    have HP := Lib.hid hp
    clear hp
    go_enter Try.func120, Try.ntmps120
    go_wp2_with fail
    refine (ValidProgram_any s _ hs20).mono ?_
    rw [HP.out]
    rintro e w1 ⟨rfl, rfl⟩
    go_wp2
    go_ret
    exact ⟨ret_int HC.out.symm, b0 _⟩
  · cases v
    · have HC := Lib.hid (show pgC s false (cards hs) = 1 by unfold pgC; rw [if_neg (by simp)])
      have HP := Lib.hid hp
      clear hp
      go_enter Try.func120, Try.ntmps120
      go_wp2_with fail
      refine (ValidProgram_any s _ hs20).mono ?_
      rw [HP.out]
      rintro e w1 ⟨rfl, rfl⟩
      go_wp2
      go_ret
      exact ⟨ret_int HC.out.symm, b0 _⟩
    · have HP := Lib.hid hp
      clear hp
      go_enter Try.func120, Try.ntmps120
      go_wp2_with fail
      refine (ValidProgram_any s _ hs20).mono ?_
      rw [HP.out]
      rintro e w1 ⟨rfl, rfl⟩
      go_wp2
      go_loopw [8, 20] (fun _ q wr => ∃ k : Nat, k ≤ hs.length ∧ q = .int .i64 k ∧ ((cards hs).take k).all cardOk = true ∧ Below w.heap.size w wr) (fun _ q _ => hs.length - (intOf q).toNat)
      case atStart => exact ⟨0, Nat.zero_le _, rfl, by simp, b0 _⟩
      case round =>
        obtain ⟨wo, rfl⟩ : ∃ wo : World, wo = wr := ⟨_, rfl⟩
        obtain ⟨k, hk, rfl, hno, hbw⟩ := hrel
        have HNO := Lib.hid hno
        clear hno
        by_cases hlt : k < hs.length
        · have i1 : (k : Int) < (hs.length : Int) := by omega
          have hkc : k < (cards hs).length := by rw [cards_length]; exact hlt
          have r0 := ha.up hbw
          obtain ⟨b, off, hD, _, hc⟩ := r0.at_ hlt
          have d1 := hc k hlt
          have rc := r0.card_at hlt
          have hxl := HLT.out hs[k] (List.getElem_mem hlt)
          have HCA := Lib.hid (cards_at hs k hkc)
          subst hD
          have TB := ba (b0 wo) (.cells #[.slice hs[k].a hs[k].xs.length hs[k].c] 26)
          have rc2 := rc.up TB
          have HB2 := Lib.hid (bs hbw TB)
          clear hc r0 rc TB
          go_wp2_with fail
          refine (ValidCard_any _ _ hs[k].xs _ rc2 hxl).mono ?_
          cases hok : cardOk hs[k].xs
          · have HC := Lib.hid (show pgC s true (cards hs) = 1 by unfold pgC; rw [if_neg (fun h => by have := al_bad (p := cardOk) hkc (by rw [HCA.out]; exact hok); rw [this] at h; simp at h)])
            rintro e w2 ⟨rfl, hb2⟩
            clear hok
            go_wp2
            go_ret
            exact ⟨ret_int HC.out.symm, bs HB2.out hb2⟩
          · have HN2 := Lib.hid (al_step hkc HNO.out (by rw [HCA.out]; exact hok))
            rintro e w2 ⟨rfl, hb2⟩
            have HB3 := Lib.hid (bs HB2.out hb2)
            clear hok hb2
            go_wp2
            go_roundw
            case rel =>
              have P : ∃ k' : Nat, k' ≤ hs.length ∧ (Value.int .i64 ((k : Int) + 1)) = .int .i64 k' ∧ ((cards hs).take k').all cardOk = true ∧ Below w.heap.size w w2 := ⟨k + 1, by omega, by go_num, HN2.out, HB3.out⟩
              first | exact P | exact ⟨_, P, rfl⟩ | exact ⟨_, _, P, rfl, rfl⟩ | exact ⟨_, _, _, P, rfl, rfl, rfl⟩ | exact ⟨_, _, _, _, P, rfl, rfl, rfl, rfl⟩ | exact ⟨_, _, _, _, _, P, rfl, rfl, rfl, rfl, rfl⟩ | exact ⟨_, _, _, _, _, _, P, rfl, rfl, rfl, rfl, rfl, rfl⟩ | exact ⟨_, _, _, _, _, _, _, P, rfl, rfl, rfl, rfl, rfl, rfl, rfl⟩ | exact ⟨_, _, _, _, _, _, _, _, P, rfl, rfl, rfl, rfl, rfl, rfl, rfl, rfl⟩
            case measure => (simp [intOf]; try omega)
        · obtain rfl : k = hs.length := by omega
          have HALL := Lib.hid (show (cards hs).all cardOk = true by
            have := HNO.out
            rwa [List.take_of_length_le (by rw [cards_length]; omega)] at this)
          go_wp2
          go_loopw [10, 30] (fun _ q wr => ∃ k : Nat, k ≤ hs.length ∧ q = .int .i64 k ∧ ((cards hs).take k).all (widB s) = true ∧ Below w.heap.size w wr) (fun _ q _ => hs.length - (intOf q).toNat)
          case atStart => exact ⟨0, Nat.zero_le _, rfl, by simp, hbw⟩
          case round =>
            obtain ⟨wp, rfl⟩ : ∃ wp : World, wp = wr := ⟨_, rfl⟩
            obtain ⟨k, hk, rfl, hno, hbw⟩ := hrel
            have HNW := Lib.hid hno
            clear hno
            by_cases hlt : k < hs.length
            · have i1 : (k : Int) < (hs.length : Int) := by omega
              have hkc : k < (cards hs).length := by rw [cards_length]; exact hlt
              have r0 := ha.up hbw
              obtain ⟨b, off, hD, _, hc⟩ := r0.at_ hlt
              have d1 := hc k hlt
              have hxl := HLT.out hs[k] (List.getElem_mem hlt)
              have HCA := Lib.hid (cards_at hs k hkc)
              subst hD
              have TB := ba (b0 wp) (.cells #[.slice hs[k].a hs[k].xs.length hs[k].c] 26)
              have HB2 := Lib.hid (bs hbw TB)
              clear hc r0 TB
              go_wp2_with fail
              refine (columns_any _ _ _ _ hxl).mono ?_
              rintro e w2 ⟨rfl, hb2⟩
              by_cases hw : hs[k].xs.length = s.size
              · have n1 : ((hs[k].xs.length : Int) != (s.size : Int)) = false := bne_f (by omega)
                have HN2 := Lib.hid (al_step hkc HNW.out (show widB s (cards hs)[k] = true by rw [HCA.out]; unfold widB; simp [hw]))
                have HB3 := Lib.hid (bs HB2.out hb2)
                clear hw hb2
                go_wp2
                go_roundw
                case rel =>
                  have P : ∃ k' : Nat, k' ≤ hs.length ∧ (Value.int .i64 ((k : Int) + 1)) = .int .i64 k' ∧ ((cards hs).take k').all (widB s) = true ∧ Below w.heap.size w w2 := ⟨k + 1, by omega, by go_num, HN2.out, HB3.out⟩
                  first | exact P | exact ⟨_, P, rfl⟩ | exact ⟨_, _, P, rfl, rfl⟩ | exact ⟨_, _, _, P, rfl, rfl, rfl⟩ | exact ⟨_, _, _, _, P, rfl, rfl, rfl, rfl⟩ | exact ⟨_, _, _, _, _, P, rfl, rfl, rfl, rfl, rfl⟩ | exact ⟨_, _, _, _, _, _, P, rfl, rfl, rfl, rfl, rfl, rfl⟩ | exact ⟨_, _, _, _, _, _, _, P, rfl, rfl, rfl, rfl, rfl, rfl, rfl⟩ | exact ⟨_, _, _, _, _, _, _, _, P, rfl, rfl, rfl, rfl, rfl, rfl, rfl, rfl⟩
                case measure => (simp [intOf]; try omega)
              · have n1 : ((hs[k].xs.length : Int) != (s.size : Int)) = true := bne_t (by omega)
                have HC := Lib.hid (show pgC s true (cards hs) = 2 by
                  unfold pgC
                  rw [if_pos ⟨HP.out, rfl, HALL.out⟩, if_neg (fun h => by
                    have := al_bad (p := widB s) hkc (by rw [HCA.out]; unfold widB; simp [hw])
                    rw [this] at h
                    simp at h)])
                go_wp2
                go_ret
                exact ⟨ret_int HC.out.symm, bs HB2.out hb2⟩
            · obtain rfl : k = hs.length := by omega
              have HC := Lib.hid (show pgC s true (cards hs) = 0 by
                unfold pgC
                have := HNW.out
                rw [List.take_of_length_le (by rw [cards_length]; omega)] at this
                rw [if_pos ⟨HP.out, rfl, HALL.out⟩, if_pos this])
              go_wp2
              go_ret
              exact ⟨ret_int HC.out.symm, hbw⟩
end Go.Proofs.Ythbgdnjlmaadjaa
