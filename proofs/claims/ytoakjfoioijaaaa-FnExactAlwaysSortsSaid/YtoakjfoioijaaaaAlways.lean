/- AlwaysSorts; in the program and in the reference. -/
import Derived.Test.YtoakjfoioijaaaaAlwaysLaw
import Derived.Test.YtoakjfoioijaaaaPasses
import Derived.IntWalk
namespace Go.Proofs.Ytoakjfoioijaaaa
open Go.RowKit

set_option maxHeartbeats 1000000 in
theorem IndexInts_any (A : Option Addr) (c n : Nat) (xs : List Int) (v : Int) (w : World) (hn : xs.length = n) (ha : Rd w w.heap.size 1 A n (ints xs)) (hl : n ≤ 1048576) :
    Calls Try.prog 153 #[.slice A n c, .int .i64 v] w fun e w' => e = .returned (.int .i64 (idxP (fun k : Int => k == v) xs)) ∧ w = w' := by
  have HN := Lib.hid hn
  clear hn
  go_enter Try.func153, Try.ntmps153
  go_wp2
  go_loop [8] (fun i => ∃ k : Nat, k ≤ n ∧ i = .int .i64 k ∧ (xs.take k).any (fun k : Int => k == v) = false) (fun i => n - (intOf i).toNat)
  case atStart => exact ⟨0, Nat.zero_le _, rfl, rfl⟩
  case round =>
    obtain ⟨k, hk, rfl, hno⟩ := hrel
    have HNO := Lib.hid hno
    clear hno
    by_cases hlt : k < n
    · have HKL := Lib.hid (show k < xs.length by rw [HN.out]; exact hlt)
      obtain ⟨b, o, rfl, _, hc⟩ := ha.at_ hlt
      have d1 := hc k _ (ints_get xs k HKL.out)
      obtain ⟨u, hu⟩ : ∃ u, u = xs[k]'HKL.out := ⟨_, rfl⟩
      rw [← hu] at d1
      have HU := Lib.hid hu
      have i1 : (k : Int) < (n : Int) := by omega
      clear hc hu
      by_cases hp : v = u
      · have HP := Lib.hid (idxP_some (p := fun k : Int => k == v) HKL.out HNO.out (by simp [← HU.out, hp]))
        have e1 := beq_t hp
        clear hp
        go_wp2
        go_ret
        exact ⟨ret_int HP.out.symm, rfl⟩
      · have HP := Lib.hid (any_take_succ (p := fun k : Int => k == v) HKL.out HNO.out (by rw [← HU.out]; exact beq_f (fun h => hp h.symm)))
        have e1 := beq_f hp
        clear hp
        go_wp2
        go_round
        case rel => exact ⟨k + 1, by omega, by go_num, HP.out⟩
        case measure => simp [intOf]; omega
    · have HP := Lib.hid (idxP_none (any_take_all (l := xs) (by rw [HN.out]; exact hlt) HNO.out))
      go_wp2
      go_ret
      exact ⟨ret_int HP.out.symm, rfl⟩
theorem IndexOrd_any (A : Option Addr) (c : Nat) (u m v p : Int) (w : World) (hp : p = placeI u m) (hv : v = pocketI u m) (ha : Rd w w.heap.size 1 A (ordN m).length (ints (ordI m))) :
    Calls Try.prog 153 #[.slice A (ordN m).length c, .int .i64 v] w fun e w' => e = .returned (.int .i64 p) ∧ w = w' := by
  rw [hp, hv]
  have := ordN_len m
  exact IndexInts_any A c (ordN m).length (ordI m) (pocketI u m) w (ordI_length m) ha (by omega)

theorem pocketOf_z (v mode z : Int) (h0 : 0 ≤ v) (h1 : v ≤ 4095) (w : World) (hz : z = pocketI v mode) :
    Calls Try.prog 152 #[.int .i64 v, .int .i64 mode] w fun e w' => e = .returned (.int .i64 z) ∧ w = w' := by
  subst hz
  exact pocketOf_any v mode h0 h1 w
theorem decN_hit {ps : List (Int × Int)} {col x y : Int} {k : Nat} (hk : k < ps.length) (h1 : ps[k].1 = col) (h2 : pocketI x ps[k].2 ≠ pocketI y ps[k].2) : decN ps col x y (k + 1) = ((k : Int), decide (placeI x ps[k].2 < placeI y ps[k].2)) := by
  have e : ps.getD k (0, 0) = ps[k] := by simp [List.getD, hk]
  unfold decN
  rw [e, if_pos ⟨h1, h2⟩]
theorem decN_miss {ps : List (Int × Int)} {col x y : Int} {k : Nat} (hk : k < ps.length) (h : ¬ (ps[k].1 = col ∧ pocketI x ps[k].2 ≠ pocketI y ps[k].2)) : decN ps col x y (k + 1) = decN ps col x y k := by
  have e : ps.getD k (0, 0) = ps[k] := by simp [List.getD, hk]
  show (if _ then _ else _) = _
  rw [e, if_neg h]
theorem ret_ibb {a b : Int} {p q : Bool} (h : a = b) (k : p = q) : Ending.returned (.tuple #[.int .i64 a, .bool p]) = .returned (.tuple #[.int .i64 b, .bool q]) := by rw [h, k]
/-- The index stands at the last of k passes. -/
def DeI (k : Nat) (q : Value) : Prop := q = .int .i64 ((k : Int) - 1)

set_option maxRecDepth 20000 in
set_option maxHeartbeats 4000000 in
theorem decides_any (A : Option Addr) (c : Nat) (ps : List (Int × Int)) (col x y : Int) (w : World) (ha : Rd w w.heap.size 2 A ps.length (prs ps)) (hl : ps.length ≤ 1048576) (hx0 : 0 ≤ x) (hx1 : x ≤ 4095) (hy0 : 0 ≤ y) (hy1 : y ≤ 4095) :
    Calls Try.prog 134 #[.slice A ps.length c, .int .i64 col, .int .i64 x, .int .i64 y] w fun e w' => e = .returned (.tuple #[.int .i64 (decN ps col x y ps.length).1, .bool (decN ps col x y ps.length).2]) ∧ Below w.heap.size w w' := by
  go_enter Try.func134, Try.ntmps134
  go_wp2
  go_loopw [10] (fun q wr => ∃ k : Nat, k ≤ ps.length ∧ q = .int .i64 ((k : Int) - 1) ∧ decN ps col x y ps.length = decN ps col x y k ∧ Below w.heap.size w wr) (fun q _ => (intOf q + 1).toNat)
  case atStart => exact ⟨ps.length, Nat.le_refl _, rfl, rfl, b0 _⟩
  case round =>
    obtain ⟨k, hk, rfl, hd, hbw⟩ := hrel
    have HD := Lib.hid hd
    clear hd
    cases k with
    | zero =>
      have h0 : ¬ (0 : Int) ≤ ((0 : Nat) : Int) - 1 := by omega
      go_wp2
      go_ret2
      exact ⟨ret_ibb (by rw [HD.out]; rfl) (by rw [HD.out]; rfl), hbw⟩
    | succ k =>
      have hlt : k < ps.length := by omega
      obtain ⟨q, hq⟩ : ∃ q : Int, q = ((k + 1 : Nat) : Int) - 1 := ⟨_, rfl⟩
      have hqk : q = (k : Int) := by omega
      rw [← hq]
      subst hqk
      have HQ := Lib.hid hq
      clear hq
      have h0 : (0 : Int) ≤ (k : Int) := by omega
      have i1 : (k : Int) < (ps.length : Int) := by omega
      obtain ⟨b, o, rfl, _, hc⟩ := ha.at_ hlt
      have d1 := cell_later hbw (hc _ _ (prs_fst ps k hlt))
      have d2 := cell_later hbw (hc _ _ (prs_snd ps k hlt))
      rw [← Nat.add_assoc] at d2
      obtain ⟨pc, hpc⟩ : ∃ pc, pc = ps[k].1 := ⟨_, rfl⟩
      obtain ⟨m, hm⟩ : ∃ m, m = ps[k].2 := ⟨_, rfl⟩
      rw [← hpc] at d1
      rw [← hm] at d2
      obtain ⟨u, hu⟩ : ∃ u, u = pocketI x m := ⟨_, rfl⟩
      obtain ⟨v, hv⟩ : ∃ v, v = pocketI y m := ⟨_, rfl⟩
      have HU := Lib.hid hu
      have HV := Lib.hid hv
      have HIT := Lib.hid (@decN_hit ps col x y k hlt)
      have MISS := Lib.hid (@decN_miss ps col x y k hlt)
      rw [← hpc, ← hm, ← hu, ← hv] at HIT MISS
      have l1 := fun z : Later wr => lat_cell z d1
      have l2 := fun z : Later wr => lat_cell z d2
      clear hc hpc hm hu hv
      go_wp2_with fail
      refine wp_region_later (by kernel_rfl) (by kernel_rfl) ?_
      repeat (go_big_quiet_step ((first | (go_at_call_of 152 (Value.int IntKind.i64 x); exact lat_pure (pocketOf_z x m u hx0 hx1 _ HU.out)) | (go_at_call_of 152 (Value.int IntKind.i64 y); exact lat_pure (pocketOf_z y m v hy0 hy1 _ HV.out)))))
      refine wpQuiet_nil ?_
      intro w4 hb4
      replace d1 := cell_later hb4 d1
      replace d2 := cell_later hb4 d2
      have T4 := bs hbw hb4
      clear hbw hb4 l1 l2
      by_cases hp : pc = col ∧ u ≠ v
      · have HH := Lib.hid (HIT.out hp.1 hp.2)
        have e1 := beq_t hp.1
        have e2 := bne_t hp.2
        obtain ⟨px, hpx⟩ : ∃ px, px = placeI x m := ⟨_, rfl⟩
        obtain ⟨py, hpy⟩ : ∃ py, py = placeI y m := ⟨_, rfl⟩
        rw [← hpx, ← hpy] at HH
        have HPX := Lib.hid hpx
        have HPY := Lib.hid hpy
        clear hp hpx hpy
        go_wp2_with fail
        refine (gatherOrder_any m _).mono ?_; rintro e w5 ⟨G, rfl, hown, hb5⟩
        have hrd := Rd.own hown
        go_wp2_with fail
        refine (IndexOrd_any _ _ x m u px _ HPX.out HU.out hrd).mono ?_; rintro e w6 ⟨rfl, rfl⟩
        go_wp2_with fail
        refine (IndexOrd_any _ _ y m v py _ HPY.out HV.out hrd).mono ?_; rintro e w6 ⟨rfl, rfl⟩
        go_wp2
        go_ret2
        exact ⟨ret_ibb (by rw [HD.out, HH.out]) (by rw [HD.out, HH.out]), bs T4 hb5⟩
      · have HM := Lib.hid (MISS.out hp)
        have HNX := Lib.hid (show decN ps col x y ps.length = decN ps col x y k by rw [HD.out, HM.out])
        by_cases hq1 : pc = col
        · have e1 := beq_t hq1
          have e2 : (u != v) = false := bne_f (by
            apply Classical.byContradiction
            intro hne
            exact hp ⟨hq1, hne⟩)
          clear hp hq1
          go_wp2
          go_roundw
          case rel => exact ⟨k, by omega, rfl, HNX.out, T4⟩
          case measure => simp [intOf]
        · have e1 := beq_f hq1
          clear hp hq1
          go_wp2
          go_roundw
          case rel => exact ⟨k, by omega, rfl, HNX.out, T4⟩
          case measure => simp [intOf]

set_option maxRecDepth 20000 in
set_option maxHeartbeats 2000000 in
theorem l08Place_any (k : Nat) (hk : k < 40) (m p : Int) (hm : m = 1 ∨ m = 2) (w : World) (hp : p = placeI (codeV (charL[k]'hk).toNat) m) :
    Calls Try.prog 150 #[.int .u8 (charB[k]'(by exact hk)).toNat, .int .i64 m] w fun e w' => e = .returned (.int .i64 p) ∧ Below w.heap.size w w' := by
  obtain ⟨u, hu⟩ : ∃ u, u = codeV (charL[k]'hk).toNat := ⟨_, rfl⟩
  have hcc := char_code k hk
  have HC := Lib.hid (l03Code_ch k hk w)
  rw [← hu] at HC hcc hp
  obtain ⟨v, hv⟩ : ∃ v, v = pocketI u m := ⟨_, rfl⟩
  have HV := Lib.hid hv
  have HP := Lib.hid (show p = idxP (fun k : Int => k == v) (ordI m) by rw [hp, hv]; rfl)
  have HOK := Lib.hid (show cardOk [u] = true by simp [cardOk, holeB, insideB, hcc.1, hcc.2.1])
  have HM := Lib.hid hm
  have hol := ordN_len m
  have HOL := Lib.hid (ordI_length m)
  have T0 : Below w.heap.size w ((w.alloc (.cells #[.int .i64 u] 2)).alloc (.cells #[.slice (some ⟨w.heap.size, 0, none⟩) 1 1] 28)) := ba (ba (b0 w) _) _
  have k1 : World.cell? ((w.alloc (.cells #[.int .i64 u] 2)).alloc (.cells #[.slice (some ⟨w.heap.size, 0, none⟩) 1 1] 28)) ⟨w.heap.size + 1, 0, none⟩ = some (.slice (some ⟨w.heap.size, 0, none⟩) [u].length 1) := cell_new (by simp) rfl
  have k2 : World.cell? ((w.alloc (.cells #[.int .i64 u] 2)).alloc (.cells #[.slice (some ⟨w.heap.size, 0, none⟩) 1 1] 28)) ⟨w.heap.size, 0, none⟩ = some (.int .i64 u) := cell_alloc (cell_new rfl rfl) _
  have rd1 : Rd ((w.alloc (.cells #[.int .i64 u] 2)).alloc (.cells #[.slice (some ⟨w.heap.size, 0, none⟩) 1 1] 28)) ((w.alloc (.cells #[.int .i64 u] 2)).alloc (.cells #[.slice (some ⟨w.heap.size, 0, none⟩) 1 1] 28)).heap.size 1 (some ⟨w.heap.size, 0, none⟩) [u].length (ints [u]) := by
    refine ⟨rfl, fun _ => ⟨w.heap.size, 0, rfl, by simp; omega, fun j z hz => ?_⟩⟩
    match j with
    | 0 => simp [ints] at hz; subst hz; exact k2
    | j + 1 => simp [ints] at hz
  have HCON := Lib.hid (l07Pocket_any (w.heap.size + 1) 0 (some ⟨w.heap.size, 0, none⟩) 1 0 [u] m _ k1 rd1 HOK.out (by simp))
  rw [show [u][0]'(by simp) = u from rfl, ← hv] at HCON
  clear hu hcc hp hv hm k1 k2 rd1
  go_enter Try.func150, Try.ntmps150
  go_wp2_with fail
  refine HC.out.mono ?_; rintro e w1 ⟨rfl, rfl⟩
  go_wp2_with fail
  refine HCON.out.mono ?_; rintro e w1 ⟨rfl, hb1⟩
  go_wp2_with fail
  refine (l07Order_any m _ HM.out).mono ?_; rintro e w2 ⟨G, rfl, hown, hb2⟩
  have hrd := Rd.own hown
  have T2 := bs (bs T0 hb1) hb2
  clear hown hb1 hb2 T0
  go_wp2
  go_loop [8] (fun i => ∃ k : Nat, k ≤ (ordN m).length ∧ i = .int .i64 k ∧ ((ordI m).take k).any (fun k : Int => k == v) = false) (fun i => (ordN m).length - (intOf i).toNat)
  case atStart => exact ⟨0, Nat.zero_le _, rfl, rfl⟩
  case round =>
    obtain ⟨k, hk, rfl, hno⟩ := hrel
    have HNO := Lib.hid hno
    clear hno
    by_cases hlt : k < (ordN m).length
    · have HKL := Lib.hid (show k < (ordI m).length by rw [HOL.out]; exact hlt)
      obtain ⟨b, o, rfl, _, hc⟩ := hrd.at_ hlt
      have d1 := hc k _ (ints_get (ordI m) k HKL.out)
      obtain ⟨z, hz⟩ : ∃ z, z = (ordI m)[k]'HKL.out := ⟨_, rfl⟩
      rw [← hz] at d1
      have HZ := Lib.hid hz
      have i1 : (k : Int) < ((ordN m).length : Int) := by omega
      clear hc hz
      by_cases hq : z = v
      · have HQ := Lib.hid (idxP_some (p := fun k : Int => k == v) HKL.out HNO.out (by rw [← HZ.out]; exact beq_t hq))
        have e1 := beq_t hq
        clear hq
        go_wp2
        go_ret
        exact ⟨ret_int (by rw [HP.out, HQ.out]), T2⟩
      · have HQ := Lib.hid (any_take_succ (p := fun k : Int => k == v) HKL.out HNO.out (by rw [← HZ.out]; exact beq_f hq))
        have e1 := beq_f hq
        clear hq
        go_wp2
        go_round
        case rel => exact ⟨k + 1, by omega, by go_num, HQ.out⟩
        case measure => simp [intOf]; omega
    · have HQ := Lib.hid (idxP_none (any_take_all (l := ordI m) (by rw [HOL.out]; exact hlt) HNO.out))
      go_wp2
      go_ret
      exact ⟨ret_int (by rw [HP.out, HQ.out]), T2⟩
end Go.Proofs.Ytoakjfoioijaaaa
