/- AlwaysSorts: the loops; in the program and in the reference. -/
import Derived.Test.YtoakjfoioijaaaaAlways
namespace Go.Proofs.Ytoakjfoioijaaaa
open Go.RowKit

theorem l08Place_z (k : Nat) (hk : k < 40) (n m p : Int) (hn : n = ((charB[k]'(by exact hk)).toNat : Int)) (hm : m = 1 ∨ m = 2) (w : World) (hp : p = placeI (codeV (charL[k]'hk).toNat) m) :
    Calls Try.prog 150 #[.int .u8 n, .int .i64 m] w fun e w' => e = .returned (.int .i64 p) ∧ Below w.heap.size w w' := by
  subst hn
  exact l08Place_any k hk m p hm w hp
theorem pairN_lt {ps : List (Int × Int)} {col x y : Int} {k : Nat} (hk : k < ps.length) (h : ps[k].1 < col) : pairN ps col x y (k + 1) = pairN ps col x y k := by
  have e : ps.getD k (0, 0) = ps[k] := by simp [List.getD, hk]
  show (if _ then _ else _) = _
  rw [e, if_pos h]
theorem pairN_gt {ps : List (Int × Int)} {col x y : Int} {k : Nat} (hk : k < ps.length) (h : col < ps[k].1) : pairN ps col x y (k + 1) = false := by
  have e : ps.getD k (0, 0) = ps[k] := by simp [List.getD, hk]
  show (if _ then _ else _) = _
  rw [e, if_neg (by omega), if_pos h]
theorem pairN_same {ps : List (Int × Int)} {col x y : Int} {k : Nat} (hk : k < ps.length) (h1 : ¬ ps[k].1 < col) (h2 : ¬ col < ps[k].1) (h : placeI x ps[k].2 = placeI y ps[k].2) : pairN ps col x y (k + 1) = pairN ps col x y k := by
  have e : ps.getD k (0, 0) = ps[k] := by simp [List.getD, hk]
  show (if _ then _ else _) = _
  rw [e, if_neg h1, if_neg h2, if_pos h]
theorem pairN_diff {ps : List (Int × Int)} {col x y : Int} {k : Nat} (hk : k < ps.length) (h1 : ¬ ps[k].1 < col) (h2 : ¬ col < ps[k].1) (h : ¬ placeI x ps[k].2 = placeI y ps[k].2) : pairN ps col x y (k + 1) = decide (placeI x ps[k].2 < placeI y ps[k].2) := by
  have e : ps.getD k (0, 0) = ps[k] := by simp [List.getD, hk]
  show (if _ then _ else _) = _
  rw [e, if_neg h1, if_neg h2, if_neg h]

set_option maxRecDepth 20000 in
set_option maxHeartbeats 4000000 in
theorem l08Pair_any (A : Option Addr) (c : Nat) (ps : List (Int × Int)) (col : Int) (i j : Nat) (hi : i < 40) (hj : j < 40) (nx ny : Int) (hnx : nx = ((charB[i]'(by exact hi)).toNat : Int)) (hny : ny = ((charB[j]'(by exact hj)).toNat : Int)) (w : World) (ha : Rd w w.heap.size 2 A ps.length (prs ps)) (hl : ps.length ≤ 1048576) (hm : ∀ p ∈ ps, p.2 = 1 ∨ p.2 = 2) :
    Calls Try.prog 131 #[.slice A ps.length c, .int .i64 col, .int .u8 nx, .int .u8 ny] w fun e w' => e = .returned (.bool (pairN ps col (codeV (charL[i]'hi).toNat) (codeV (charL[j]'hj).toNat) ps.length)) ∧ Below w.heap.size w w' := by
  obtain ⟨x, hx⟩ : ∃ x, x = codeV (charL[i]'hi).toNat := ⟨_, rfl⟩
  obtain ⟨y, hy⟩ : ∃ y, y = codeV (charL[j]'hj).toNat := ⟨_, rfl⟩
  have HX := Lib.hid hx
  have HY := Lib.hid hy
  have HNX := Lib.hid hnx
  have HNY := Lib.hid hny
  have HM := Lib.hid hm
  rw [← hx, ← hy]
  clear hx hy hnx hny hm
  go_enter Try.func131, Try.ntmps131
  go_wp2
  go_loopw [9, 10] (fun q _ wr => ∃ k : Nat, k ≤ ps.length ∧ q = .int .i64 ((k : Int) - 1) ∧ pairN ps col x y ps.length = pairN ps col x y k ∧ Below w.heap.size w wr) (fun q _ _ => (intOf q + 1).toNat)
  case atStart => exact ⟨ps.length, Nat.le_refl _, rfl, rfl, b0 _⟩
  case round =>
    obtain ⟨wo, rfl⟩ : ∃ wo : World, wo = wr := ⟨_, rfl⟩
    obtain ⟨k, hk, rfl, hd, hbw⟩ := hrel
    have HD := Lib.hid hd
    clear hd
    cases k with
    | zero =>
      have h0 : ¬ (0 : Int) ≤ ((0 : Nat) : Int) - 1 := by omega
      go_wp2
      go_ret
      exact ⟨ret_bool (by rw [HD.out]; rfl), hbw⟩
    | succ k =>
      have hlt : k < ps.length := by omega
      obtain ⟨q, hq⟩ : ∃ q : Int, q = ((k + 1 : Nat) : Int) - 1 := ⟨_, rfl⟩
      have hqk : q = (k : Int) := by omega
      rw [← hq]
      subst hqk
      clear hq
      have h0 : (0 : Int) ≤ (k : Int) := by omega
      have i1 : (k : Int) < (ps.length : Int) := by omega
      obtain ⟨b, o, rfl, _, hc⟩ := ha.at_ hlt
      have d1 := cell_later hbw (hc _ _ (prs_fst ps k hlt))
      have d2 := cell_later hbw (hc _ _ (prs_snd ps k hlt))
      rw [← Nat.add_assoc] at d2
      obtain ⟨pc, hpc⟩ : ∃ pc, pc = ps[k].1 := ⟨_, rfl⟩
      obtain ⟨m, hm⟩ : ∃ m, m = ps[k].2 := ⟨_, rfl⟩
      have HLT := Lib.hid (@pairN_lt ps col x y k hlt)
      have HGT := Lib.hid (@pairN_gt ps col x y k hlt)
      have HSA := Lib.hid (@pairN_same ps col x y k hlt)
      have HDI := Lib.hid (@pairN_diff ps col x y k hlt)
      have HMO := Lib.hid (HM.out ps[k] (List.getElem_mem hlt))
      rw [← hpc] at d1 HLT HGT HSA HDI
      rw [← hm] at d2 HSA HDI HMO
      obtain ⟨px, hpx⟩ : ∃ px, px = placeI x m := ⟨_, rfl⟩
      obtain ⟨py, hpy⟩ : ∃ py, py = placeI y m := ⟨_, rfl⟩
      have HPX := Lib.hid (show px = placeI (codeV (charL[i]'hi).toNat) m by rw [hpx, HX.out])
      have HPY := Lib.hid (show py = placeI (codeV (charL[j]'hj).toNat) m by rw [hpy, HY.out])
      rw [← hpx, ← hpy] at HSA HDI
      have TB : Below w.heap.size w (wo.alloc (.cells #[.int .i64 pc, .int .i64 m] 76)) := ba hbw _
      clear hc hpc hm hpx hpy
      by_cases g1 : pc < col
      · have HN := Lib.hid (show pairN ps col x y ps.length = pairN ps col x y k by rw [HD.out, HLT.out g1])
        go_wp2
        go_roundw
        case rel =>
          have P : ∃ k_1 : Nat, k_1 ≤ ps.length ∧ Value.int .i64 ((k : Int) - 1) = .int .i64 ((k_1 : Int) - 1) ∧ pairN ps col x y ps.length = pairN ps col x y k_1 ∧ Below w.heap.size w (wo.alloc (.cells #[.int .i64 pc, .int .i64 m] 76)) := ⟨k, by omega, rfl, HN.out, TB⟩
          first | exact P | exact ⟨_, P, rfl⟩ | exact ⟨_, _, P, rfl, rfl⟩ | exact ⟨_, _, _, P, rfl, rfl, rfl⟩ | exact ⟨_, _, _, _, P, rfl, rfl, rfl, rfl⟩ | exact ⟨_, _, _, _, _, P, rfl, rfl, rfl, rfl, rfl⟩ | exact ⟨_, _, _, _, _, _, P, rfl, rfl, rfl, rfl, rfl, rfl⟩ | exact ⟨_, _, _, _, _, _, _, P, rfl, rfl, rfl, rfl, rfl, rfl, rfl⟩ | exact ⟨_, _, _, _, _, _, _, _, P, rfl, rfl, rfl, rfl, rfl, rfl, rfl, rfl⟩
        case measure => simp [intOf]
      · by_cases g2 : col < pc
        · have HN := Lib.hid (show pairN ps col x y ps.length = false by rw [HD.out, HGT.out g2])
          go_wp2
          go_ret
          exact ⟨ret_bool HN.out.symm, TB⟩
        · have c1 : World.cell? (wo.alloc (.cells #[.int .i64 pc, .int .i64 m] 76)) ⟨wo.heap.size, 1, none⟩ = some (.int .i64 m) := cell_new rfl rfl
          by_cases g3 : px = py
          · have HN := Lib.hid (show pairN ps col x y ps.length = pairN ps col x y k by rw [HD.out, HSA.out g1 g2 g3])
            have e3 := bne_f g3
            clear g3
            go_wp2_with fail
            refine (l08Place_z i hi nx m px HNX.out HMO.out _ HPX.out).mono ?_; rintro e w1 ⟨rfl, hb1⟩
            have c2 := cell_later hb1 c1
            go_wp2_with fail
            refine (l08Place_z j hj ny m py HNY.out HMO.out _ HPY.out).mono ?_; rintro e w2 ⟨rfl, hb2⟩
            have T2 := bs (bs TB hb1) hb2
            clear hb1 hb2
            go_wp2
            go_roundw
            case rel =>
              have P : ∃ k_1 : Nat, k_1 ≤ ps.length ∧ Value.int .i64 ((k : Int) - 1) = .int .i64 ((k_1 : Int) - 1) ∧ pairN ps col x y ps.length = pairN ps col x y k_1 ∧ Below w.heap.size w w2 := ⟨k, by omega, rfl, HN.out, T2⟩
              first | exact P | exact ⟨_, P, rfl⟩ | exact ⟨_, _, P, rfl, rfl⟩ | exact ⟨_, _, _, P, rfl, rfl, rfl⟩ | exact ⟨_, _, _, _, P, rfl, rfl, rfl, rfl⟩ | exact ⟨_, _, _, _, _, P, rfl, rfl, rfl, rfl, rfl⟩ | exact ⟨_, _, _, _, _, _, P, rfl, rfl, rfl, rfl, rfl, rfl⟩ | exact ⟨_, _, _, _, _, _, _, P, rfl, rfl, rfl, rfl, rfl, rfl, rfl⟩ | exact ⟨_, _, _, _, _, _, _, _, P, rfl, rfl, rfl, rfl, rfl, rfl, rfl, rfl⟩
            case measure => simp [intOf]
          · have HN := Lib.hid (show pairN ps col x y ps.length = decide (px < py) by rw [HD.out, HDI.out g1 g2 g3])
            have e3 := bne_t g3
            clear g3
            go_wp2_with fail
            refine (l08Place_z i hi nx m px HNX.out HMO.out _ HPX.out).mono ?_; rintro e w1 ⟨rfl, hb1⟩
            have c2 := cell_later hb1 c1
            go_wp2_with fail
            refine (l08Place_z j hj ny m py HNY.out HMO.out _ HPY.out).mono ?_; rintro e w2 ⟨rfl, hb2⟩
            have T2 := bs (bs TB hb1) hb2
            clear hb1 hb2
            go_wp2
            go_ret
            exact ⟨ret_bool HN.out.symm, T2⟩
end Go.Proofs.Ytoakjfoioijaaaa
