/- AlwaysSorts: the loops of the program and of the reference, and the calls. -/
import Derived.Test.YtoakjfoioijaaaaAlways2
namespace Go.Proofs.Ytoakjfoioijaaaa
open Go.RowKit

theorem codeOf_z (k : Nat) (hk : k < 40) (v : Int) (hv : v = codeV (charL[k]'hk).toNat) (w : World) :
    Calls Try.prog 78 #[.int .u8 (charB[k]'(by exact hk)).toNat] w fun e w' => e = .returned (.int .i64 v) ∧ w = w' := by
  subst hv
  exact codeOf_ch k hk w
theorem codeOf_n (n : Int) (k : Nat) (hk : k < 40) (v : Int) (hv : v = codeV (charL[k]'hk).toNat) (hn : n = ((charB[k]'(by exact hk)).toNat : Int)) (w : World) :
    Calls Try.prog 78 #[.int .u8 n] w fun e w' => e = .returned (.int .i64 v) ∧ w = w' := by
  subst hn
  exact codeOf_z k hk v hv w
theorem decides_z (A : Option Addr) (c : Nat) (ps : List (Int × Int)) (col x y z : Int) (b : Bool) (w : World) (ha : Rd w w.heap.size 2 A ps.length (prs ps)) (hl : ps.length ≤ 1048576) (hx : 0 ≤ x ∧ x ≤ 4095) (hy : 0 ≤ y ∧ y ≤ 4095) (hz : z = (decN ps col x y ps.length).1) (hb : b = (decN ps col x y ps.length).2) :
    Calls Try.prog 134 #[.slice A ps.length c, .int .i64 col, .int .i64 x, .int .i64 y] w fun e w' => e = .returned (.tuple #[.int .i64 z, .bool b]) ∧ Below w.heap.size w w' := by
  subst hz hb
  exact decides_any A c ps col x y w ha hl hx.1 hx.2 hy.1 hy.2
theorem latN_yes {ps : List (Int × Int)} {col : Int} {k : Nat} (hk : k < ps.length) (h : col < ps[k].1) : latN ps col (k + 1) = (k : Int) := by
  have e : ps.getD k (0, 0) = ps[k] := by simp [List.getD, hk]
  show (if _ then _ else _) = _
  rw [e, if_pos h]
theorem latN_no {ps : List (Int × Int)} {col : Int} {k : Nat} (hk : k < ps.length) (h : ¬ col < ps[k].1) : latN ps col (k + 1) = latN ps col k := by
  have e : ps.getD k (0, 0) = ps[k] := by simp [List.getD, hk]
  show (if _ then _ else _) = _
  rw [e, if_neg h]
theorem char_getD {k : Nat} (hk : k < 40) : charL.getD k 0 = charL[k]'hk := by
  rw [List.getD_eq_getElem?_getD, List.getElem?_eq_getElem (show k < charL.length from hk)]
  rfl
theorem pairB_def {ps : List (Int × Int)} {col : Int} {i k : Nat} (hi : i < 40) (hk : k < 40) : pairB ps col i k = pairN ps col (codeV (charL[i]'hi).toNat) (codeV (charL[k]'hk).toNat) ps.length := by
  unfold pairB
  rw [char_getD hi, char_getD hk]
theorem pairB_dec {ps : List (Int × Int)} {col : Int} {i k : Nat} (hi : i < 40) (hk : k < 40) (hm : ∀ p ∈ ps, p.2 = 1 ∨ p.2 = 2) {z lt : Int} {b : Bool}
    (hz : z = (decN ps col (codeV (charL[i]'hi).toNat) (codeV (charL[k]'hk).toNat) ps.length).1) (hb : b = (decN ps col (codeV (charL[i]'hi).toNat) (codeV (charL[k]'hk).toNat) ps.length).2) (hlt : lt = latN ps col ps.length) :
    pairB ps col i k = (decide (0 ≤ z) && (b && decide (lt ≤ z))) := by
  rw [pairB_def hi hk, pairN_eq _ _ _ _ _ (Nat.le_refl _) hm, hz, hb, hlt]
theorem rowB_zero (ps : List (Int × Int)) (col : Int) (i : Nat) (k : Nat) (h : k = i + 1) : rowB ps col i k = true := by
  subst h
  exact rowB_start ps col i
theorem fld_no {ps : List (Int × Int)} {i j n x y : Nat} (hn : i + n < j) (hx : x < 40) (hxy : x < y) (hy : y < 40) (hp : pairB ps ((i + n : Nat) : Int) x y = false) : alwB ps (i : Int) (j : Int) = false := by
  unfold alwB
  rw [fldB_no (j := n) (by omega) (colB_no hx (rowB_no hxy hy (by rw [← hp]; congr 1)))]
  simp
theorem fld_yes {ps : List (Int × Int)} {i j n : Nat} (hn : i + n = j) (hf : fldB ps (i : Int) n = true) (hi : ps.any (fun p => !insideB p.1 (i : Int) ((j : Int) - 1)) = false) : alwB ps (i : Int) (j : Int) = true := by
  unfold alwB inB
  have h1 : (ps.all fun p => insideB p.1 (i : Int) ((j : Int) - 1)) = true := by
    rw [List.all_eq_true]
    intro p hp
    have := List.any_eq_false.1 hi p hp
    simpa using this
  rw [h1, show ((j : Int) - (i : Int)).toNat = n by omega, hf]
  rfl
theorem fld_out {ps : List (Int × Int)} {i j k : Nat} (hk : k < ps.length) (h : insideB ps[k].1 (i : Int) ((j : Int) - 1) = false) : alwB ps (i : Int) (j : Int) = false := by
  have h1 : inB ps (i : Int) (j : Int) = false := by
    unfold inB
    rw [List.all_eq_false]
    exact ⟨ps[k], List.getElem_mem hk, by simp [h]⟩
  unfold alwB
  rw [h1]
  rfl
theorem fldB_next {ps : List (Int × Int)} {i n : Nat} (h : fldB ps (i : Int) n = true) (hp : colB ps ((i + n : Nat) : Int) 40 = true) : fldB ps (i : Int) (n + 1) = true := fldB_yes h (by rw [← hp]; congr 1)
theorem lat_range (ps : List (Int × Int)) (col : Int) (k : Nat) (hk : k ≤ ps.length) (hl : ps.length ≤ 1048576) : -1 ≤ latN ps col k ∧ latN ps col k ≤ 1048576 := by
  have := latN_lt ps col k
  omega

/-- Behind so many passes: all are of the field. -/
def AIn (ps : List (Int × Int)) (i j : Nat) (w wr : World) (q : Value) : Prop := ∃ k : Nat, k ≤ ps.length ∧ q = .int .i64 k ∧ (ps.take k).any (fun p => !insideB p.1 (i : Int) ((j : Int) - 1)) = false ∧ Below w.heap.size w wr
/-- Behind so many columns. -/
def AFl (ps : List (Int × Int)) (i j : Nat) (w wr : World) (q : Value) : Prop := ∃ n : Nat, i + n ≤ j ∧ q = .int .i64 ((i + n : Nat) : Int) ∧ fldB ps (i : Int) n = true ∧ Below w.heap.size w wr
def ALt (ps : List (Int × Int)) (c : Nat) (w wr : World) (v q : Value) : Prop := ∃ k : Nat, k ≤ ps.length ∧ q = .int .i64 k ∧ v = .int .i64 (latN ps (c : Int) k) ∧ Below w.heap.size w wr
def ARow (ps : List (Int × Int)) (c : Nat) (w wr : World) (q : Value) : Prop := ∃ x : Nat, x ≤ 40 ∧ q = .int .i64 x ∧ colB ps (c : Int) x = true ∧ Below w.heap.size w wr
def APr (ps : List (Int × Int)) (c x : Nat) (w wr : World) (q : Value) : Prop := ∃ y : Nat, x < y ∧ y ≤ 40 ∧ q = .int .i64 y ∧ rowB ps (c : Int) x y = true ∧ Below w.heap.size w wr

set_option maxRecDepth 20000 in
set_option maxHeartbeats 8000000 in
theorem alwaysSorts_any (A : Option Addr) (c : Nat) (ps : List (Int × Int)) (i j : Nat) (r : Bool) (w : World) (ha : Rd w w.heap.size 2 A ps.length (prs ps)) (hl : ps.length ≤ 1048576) (hij : i < j) (hj : j ≤ 20) (hm : ∀ p ∈ ps, p.2 = 1 ∨ p.2 = 2) (hr : r = alwB ps (i : Int) (j : Int)) :
    Calls Try.prog 92 #[.agg #[.int .i64 (i : Int), .int .i64 (j : Int)], .slice A ps.length c] w fun e w' => e = .returned (.bool r) ∧ Below w.heap.size w w' := by
  have HR := Lib.hid hr
  have HM := Lib.hid hm
  have T0 : Below w.heap.size w (w.alloc (.cells #[.int .i64 (i : Int), .int .i64 (j : Int)] 60)) := ba (b0 w) _
  have ra := ha.a1 (.cells #[.int .i64 (i : Int), .int .i64 (j : Int)] 60)
  obtain ⟨W, hW⟩ : ∃ W, W = w.alloc (.cells #[.int .i64 (i : Int), .int .i64 (j : Int)] 60) := ⟨_, rfl⟩
  have k2 : W.cell? ⟨w.heap.size, 0, none⟩ = some (.int .i64 (i : Int)) := by rw [hW]; exact cell_new rfl rfl
  have k3 : W.cell? ⟨w.heap.size, 1, none⟩ = some (.int .i64 (j : Int)) := by rw [hW]; exact cell_new rfl rfl
  rw [← hW] at T0 ra
  have HW := Lib.hid hW
  clear hW hr hm
  go_enter Try.func92, Try.ntmps92
  go_wp2
  rw [← HW.out]
  go_loopw [6, 17] (fun _ q wr => AIn ps i j W wr q) (fun _ q _ => ps.length - (intOf q).toNat)
  case atStart => exact ⟨0, Nat.zero_le _, rfl, rfl, b0 _⟩
  case round =>
    obtain ⟨wo, rfl⟩ : ∃ wo : World, wo = wr := ⟨_, rfl⟩
    obtain ⟨k, hk, rfl, hno, hbw⟩ := hrel
    have HNO := Lib.hid hno
    clear hno
    by_cases hlt : k < ps.length
    · obtain ⟨b, o, rfl, _, hc⟩ := ra.at_ hlt
      have d1 := cell_later hbw (hc _ _ (prs_fst ps k hlt))
      have d2 := cell_later hbw (hc _ _ (prs_snd ps k hlt))
      rw [← Nat.add_assoc] at d2
      have HIN := Lib.hid (@fld_out ps i j k hlt)
      have HSU := Lib.hid (fun h => any_take_succ (p := fun p => !insideB p.1 (i : Int) ((j : Int) - 1)) hlt HNO.out h)
      obtain ⟨pc, hpc⟩ : ∃ pc, pc = ps[k].1 := ⟨_, rfl⟩
      obtain ⟨m, hm⟩ : ∃ m, m = ps[k].2 := ⟨_, rfl⟩
      rw [← hpc] at d1 HIN HSU
      rw [← hm] at d2
      have i1 : (k : Int) < (ps.length : Int) := by omega
      have e2 := cell_alloc (cell_later hbw k2) (.cells #[.int .i64 pc, .int .i64 m] 76)
      have e3 := cell_alloc (cell_later hbw k3) (.cells #[.int .i64 pc, .int .i64 m] 76)
      have TB : Below W.heap.size W (wo.alloc (.cells #[.int .i64 pc, .int .i64 m] 76)) := ba hbw _
      clear hc hpc hm
      rcases Bool.eq_false_or_eq_true (insideB pc (i : Int) ((j : Int) - 1)) with hp | hp
      · have HN := Lib.hid (HSU.out (by rw [hp]; rfl))
        go_wp2_with fail
        refine (inside_any _ _ _ _).mono ?_; rintro e w1 ⟨rfl, rfl⟩
        go_wp2
        go_roundw
        case rel =>
          have P : AIn ps i j W (wo.alloc (.cells #[.int .i64 pc, .int .i64 m] 76)) (.int .i64 ((k : Int) + 1)) := ⟨k + 1, by omega, by go_num, HN.out, TB⟩
          first | exact P | exact ⟨_, P, rfl⟩ | exact ⟨_, _, P, rfl, rfl⟩ | exact ⟨_, _, _, P, rfl, rfl, rfl⟩ | exact ⟨_, _, _, _, P, rfl, rfl, rfl, rfl⟩ | exact ⟨_, _, _, _, _, P, rfl, rfl, rfl, rfl, rfl⟩ | exact ⟨_, _, _, _, _, _, P, rfl, rfl, rfl, rfl, rfl, rfl⟩ | exact ⟨_, _, _, _, _, _, _, P, rfl, rfl, rfl, rfl, rfl, rfl, rfl⟩ | exact ⟨_, _, _, _, _, _, _, _, P, rfl, rfl, rfl, rfl, rfl, rfl, rfl, rfl⟩
        case measure => simp [intOf]; omega
      · have HN := Lib.hid (HIN.out hp)
        go_wp2_with fail
        refine (inside_any _ _ _ _).mono ?_; rintro e w1 ⟨rfl, rfl⟩
        go_wp2
        go_ret
        exact ⟨ret_bool (by rw [HR.out, HN.out]), bs T0 TB⟩
    · have HIN := Lib.hid (any_take_all hlt HNO.out)
      have k2' := cell_later hbw k2
      go_wp2
      go_loopw [7, 8, 9, 10, 11, 12, 13, 14, 41, 52] (fun q _ _ _ _ _ _ _ _ _ wr => AFl ps i j W wr q) (fun q _ _ _ _ _ _ _ _ _ _ => j - (intOf q).toNat)
      case atStart => exact ⟨0, by omega, rfl, rfl, hbw⟩
      case round =>
        obtain ⟨wp, rfl⟩ : ∃ wp : World, wp = wr := ⟨_, rfl⟩
        obtain ⟨n, hn, rfl, hf, hbn⟩ := hrel
        have HF := Lib.hid hf
        have k3' := cell_later hbn k3
        clear hf
        by_cases hlt2 : i + n < j
        · obtain ⟨d, hd⟩ : ∃ d : Nat, d = i + n := ⟨_, rfl⟩
          have HD := Lib.hid hd
          rw [← hd] at hlt2 ⊢
          have hd20 : d < 20 := by omega
          clear hd
          go_wp2
          go_loopw [8, 9, 10, 41] (fun v _ _ q wr => ALt ps d W wr v q) (fun _ _ _ q _ => ps.length - (intOf q).toNat)
          case atStart => exact ⟨0, Nat.zero_le _, rfl, rfl, hbn⟩
          case round =>
            obtain ⟨wq, rfl⟩ : ∃ wq : World, wq = wr := ⟨_, rfl⟩
            obtain ⟨k1, hk1, rfl, rfl, hbq⟩ := hrel
            by_cases hlt3 : k1 < ps.length
            · obtain ⟨b, o, rfl, _, hc⟩ := ra.at_ hlt3
              have d1 := cell_later hbq (hc _ _ (prs_fst ps k1 hlt3))
              have d2 := cell_later hbq (hc _ _ (prs_snd ps k1 hlt3))
              rw [← Nat.add_assoc] at d2
              have HY := Lib.hid (@latN_yes ps (d : Int) k1 hlt3)
              have HNn := Lib.hid (@latN_no ps (d : Int) k1 hlt3)
              obtain ⟨pc, hpc⟩ : ∃ pc, pc = ps[k1].1 := ⟨_, rfl⟩
              obtain ⟨m, hm⟩ : ∃ m, m = ps[k1].2 := ⟨_, rfl⟩
              rw [← hpc] at d1 HY HNn
              rw [← hm] at d2
              have i1 : (k1 : Int) < (ps.length : Int) := by omega
              have TB : Below W.heap.size W (wq.alloc (.cells #[.int .i64 pc, .int .i64 m] 76)) := ba hbq _
              obtain ⟨la, hla⟩ : ∃ la, la = latN ps (d : Int) k1 := ⟨_, rfl⟩
              have HLA := Lib.hid hla
              rw [← hla]
              clear hc hpc hm hla
              by_cases hp : (d : Int) < pc
              · have HN := Lib.hid (HY.out hp)
                go_wp2
                go_roundw
                case rel =>
                  have P : ALt ps d W (wq.alloc (.cells #[.int .i64 pc, .int .i64 m] 76)) (.int .i64 (k1 : Int)) (.int .i64 ((k1 : Int) + 1)) := ⟨k1 + 1, by omega, by go_num, by rw [HN.out], TB⟩
                  first | exact P | exact ⟨_, P, rfl⟩ | exact ⟨_, _, P, rfl, rfl⟩ | exact ⟨_, _, _, P, rfl, rfl, rfl⟩ | exact ⟨_, _, _, _, P, rfl, rfl, rfl, rfl⟩ | exact ⟨_, _, _, _, _, P, rfl, rfl, rfl, rfl, rfl⟩ | exact ⟨_, _, _, _, _, _, P, rfl, rfl, rfl, rfl, rfl, rfl⟩ | exact ⟨_, _, _, _, _, _, _, P, rfl, rfl, rfl, rfl, rfl, rfl, rfl⟩ | exact ⟨_, _, _, _, _, _, _, _, P, rfl, rfl, rfl, rfl, rfl, rfl, rfl, rfl⟩
                case measure => simp [intOf]; omega
              · have HN := Lib.hid (HNn.out hp)
                go_wp2
                go_roundw
                case rel =>
                  have P : ALt ps d W (wq.alloc (.cells #[.int .i64 pc, .int .i64 m] 76)) (.int .i64 la) (.int .i64 ((k1 : Int) + 1)) := ⟨k1 + 1, by omega, by go_num, by rw [HN.out, HLA.out], TB⟩
                  first | exact P | exact ⟨_, P, rfl⟩ | exact ⟨_, _, P, rfl, rfl⟩ | exact ⟨_, _, _, P, rfl, rfl, rfl⟩ | exact ⟨_, _, _, _, P, rfl, rfl, rfl, rfl⟩ | exact ⟨_, _, _, _, _, P, rfl, rfl, rfl, rfl, rfl⟩ | exact ⟨_, _, _, _, _, _, P, rfl, rfl, rfl, rfl, rfl, rfl⟩ | exact ⟨_, _, _, _, _, _, _, P, rfl, rfl, rfl, rfl, rfl, rfl, rfl⟩ | exact ⟨_, _, _, _, _, _, _, _, P, rfl, rfl, rfl, rfl, rfl, rfl, rfl, rfl⟩
                case measure => simp [intOf]; omega
            · have hkk : k1 = ps.length := by omega
              have hlr := lat_range ps (d : Int) k1 hk1 hl
              obtain ⟨la, hla⟩ : ∃ la, la = latN ps (d : Int) k1 := ⟨_, rfl⟩
              have HLA := Lib.hid (show la = latN ps (d : Int) ps.length by rw [hla, hkk])
              rw [← hla] at hlr ⊢
              clear hla hkk
              go_wp2
              go_loopw [11, 12, 13, 14, 52] (fun _ _ _ _ q wr => ARow ps d W wr q) (fun _ _ _ _ q _ => 40 - (intOf q).toNat)
              case atStart => exact ⟨0, by omega, rfl, rfl, hbq⟩
              case round =>
                obtain ⟨ws, rfl⟩ : ∃ ws : World, ws = wr := ⟨_, rfl⟩
                obtain ⟨x, hx, rfl, hco, hbs⟩ := hrel
                have HCO := Lib.hid hco
                clear hco
                by_cases hx40 : x < 40
                · have i1 : (x : Int) < 40 := by omega
                  go_wp2
                  go_loopw [12, 13, 14] (fun q _ _ wr => APr ps d x W wr q) (fun q _ _ _ => 40 - (intOf q).toNat)
                  case atStart => exact ⟨x + 1, by omega, by omega, by go_num, rowB_start _ _ _, hbs⟩
                  case round =>
                    obtain ⟨wt, rfl⟩ : ∃ wt : World, wt = wr := ⟨_, rfl⟩
                    obtain ⟨y, hxy, hy, rfl, hro, hbt⟩ := hrel
                    have HRO := Lib.hid hro
                    clear hro
                    by_cases hy40 : y < 40
                    · have i2 : (y : Int) < 40 := by omega
                      have hcx := char_code x hx40
                      have hcy := char_code y hy40
                      have hcx : 0 ≤ codeV (charL[x]'hx40).toNat ∧ codeV (charL[x]'hx40).toNat ≤ 4095 := ⟨hcx.1, hcx.2.1⟩
                      have hcy : 0 ≤ codeV (charL[y]'hy40).toNat ∧ codeV (charL[y]'hy40).toNat ≤ 4095 := ⟨hcy.1, hcy.2.1⟩
                      have HPD := Lib.hid (fun (z : Int) (b : Bool) h1 h2 => @pairB_dec ps (d : Int) x y hx40 hy40 HM.out z la b h1 h2 HLA.out)
                      obtain ⟨vx, hvx⟩ : ∃ v, v = codeV (charL[x]'hx40).toNat := ⟨_, rfl⟩
                      obtain ⟨vy, hvy⟩ : ∃ v, v = codeV (charL[y]'hy40).toNat := ⟨_, rfl⟩
                      rw [← hvx] at hcx HPD
                      rw [← hvy] at hcy HPD
                      have HVX := Lib.hid hvx
                      have HVY := Lib.hid hvy
                      have hdl := decN_lt ps (d : Int) vx vy ps.length
                      obtain ⟨z, hz⟩ : ∃ z, z = (decN ps (d : Int) vx vy ps.length).1 := ⟨_, rfl⟩
                      obtain ⟨f, hf⟩ : ∃ f, f = (decN ps (d : Int) vx vy ps.length).2 := ⟨_, rfl⟩
                      have HZ := Lib.hid hz
                      have HFI := Lib.hid hf
                      have HP := Lib.hid (HPD.out z f HZ.out HFI.out)
                      have rt := ra.up hbt
                      rw [← hz] at hdl
                      clear hvx hvy hz hf
                      by_cases q1 : z < 0
                      · have HN := Lib.hid (show pairB ps (d : Int) x y = false by rw [HP.out]; simp; omega)
                        clear HPD HP
                        go_wp2_with fail
                        refine wp_region_later (by kernel_rfl) (by kernel_rfl) ?_
                        repeat (go_big_quiet_step (fail))
                        go_big_quiet_step ((go_at_call 78; exact lat_pure (codeOf_z x hx40 vx HVX.out _)))
                        repeat (go_big_quiet_step (fail))
                        go_big_quiet_step ((go_at_call 78; exact lat_pure (codeOf_z y hy40 vy HVY.out _)))
                        repeat (go_big_quiet_step (fail))
                        go_big_quiet_step ((go_at_call 134; exact lat_call (decides_z _ _ ps (d : Int) vx vy z f _ (lat_rd _ rt) hl hcx hcy HZ.out HFI.out)))
                        repeat (go_big_quiet_step (fail))
                        refine wpQuiet_nil ?_
                        intro w4 hb4
                        have TT := bs hbt hb4
                        clear hbt hb4 rt
                        go_wp2
                        go_ret
                        exact ⟨ret_bool (by rw [HR.out]; exact (fld_no (i := i) (n := n) (by have := HD.out; omega) hx40 hxy hy40 (by rw [← HD.out]; exact HN.out)).symm), bs T0 TT⟩
                      · rcases Bool.eq_false_or_eq_true f with q2 | q2
                        · by_cases q3 : z < la
                          · have HN := Lib.hid (show pairB ps (d : Int) x y = false by rw [HP.out]; simp; omega)
                            have HFT := Lib.hid (q2.symm.trans HFI.out)
                            clear HPD HP q2
                            go_wp2_with fail
                            refine wp_region_later (by kernel_rfl) (by kernel_rfl) ?_
                            repeat (go_big_quiet_step (fail))
                            go_big_quiet_step ((go_at_call 78; exact lat_pure (codeOf_z x hx40 vx HVX.out _)))
                            repeat (go_big_quiet_step (fail))
                            go_big_quiet_step ((go_at_call 78; exact lat_pure (codeOf_z y hy40 vy HVY.out _)))
                            repeat (go_big_quiet_step (fail))
                            go_big_quiet_step ((go_at_call 134; exact lat_call (decides_z _ _ ps (d : Int) vx vy z true _ (lat_rd _ rt) hl hcx hcy HZ.out HFT.out)))
                            repeat (go_big_quiet_step (fail))
                            refine wpQuiet_nil ?_
                            intro w4 hb4
                            have TT := bs hbt hb4
                            clear hbt hb4 rt
                            go_wp2
                            go_ret
                            exact ⟨ret_bool (by rw [HR.out]; exact (fld_no (i := i) (n := n) (by have := HD.out; omega) hx40 hxy hy40 (by rw [← HD.out]; exact HN.out)).symm), bs T0 TT⟩
                          · have HN := Lib.hid (rowB_yes HRO.out (show pairB ps (d : Int) x y = true by rw [HP.out, q2]; simp; omega))
                            have HFT := Lib.hid (q2.symm.trans HFI.out)
                            clear HPD HP q2
                            go_wp2_with fail
                            refine wp_region_later (by kernel_rfl) (by kernel_rfl) ?_
                            repeat (go_big_quiet_step (fail))
                            go_big_quiet_step ((go_at_call 78; exact lat_pure (codeOf_z x hx40 vx HVX.out _)))
                            repeat (go_big_quiet_step (fail))
                            go_big_quiet_step ((go_at_call 78; exact lat_pure (codeOf_z y hy40 vy HVY.out _)))
                            repeat (go_big_quiet_step (fail))
                            go_big_quiet_step ((go_at_call 134; exact lat_call (decides_z _ _ ps (d : Int) vx vy z true _ (lat_rd _ rt) hl hcx hcy HZ.out HFT.out)))
                            repeat (go_big_quiet_step (fail))
                            refine wpQuiet_nil ?_
                            intro w4 hb4
                            have TT := bs hbt hb4
                            clear hbt hb4 rt
                            go_wp2
                            go_roundw
                            case rel =>
                              have P : APr ps d x W w4 (.int .i64 ((y : Int) + 1)) := ⟨y + 1, by omega, by omega, by go_num, HN.out, TT⟩
                              first | exact P | exact ⟨_, P, rfl⟩ | exact ⟨_, _, P, rfl, rfl⟩ | exact ⟨_, _, _, P, rfl, rfl, rfl⟩ | exact ⟨_, _, _, _, P, rfl, rfl, rfl, rfl⟩ | exact ⟨_, _, _, _, _, P, rfl, rfl, rfl, rfl, rfl⟩ | exact ⟨_, _, _, _, _, _, P, rfl, rfl, rfl, rfl, rfl, rfl⟩ | exact ⟨_, _, _, _, _, _, _, P, rfl, rfl, rfl, rfl, rfl, rfl, rfl⟩ | exact ⟨_, _, _, _, _, _, _, _, P, rfl, rfl, rfl, rfl, rfl, rfl, rfl, rfl⟩
                            case measure => simp [intOf]; omega
                        · have HN := Lib.hid (show pairB ps (d : Int) x y = false by rw [HP.out, q2]; simp)
                          have HFT := Lib.hid (q2.symm.trans HFI.out)
                          clear HPD HP q2
                          go_wp2_with fail
                          refine wp_region_later (by kernel_rfl) (by kernel_rfl) ?_
                          repeat (go_big_quiet_step (fail))
                          go_big_quiet_step ((go_at_call 78; exact lat_pure (codeOf_z x hx40 vx HVX.out _)))
                          repeat (go_big_quiet_step (fail))
                          go_big_quiet_step ((go_at_call 78; exact lat_pure (codeOf_z y hy40 vy HVY.out _)))
                          repeat (go_big_quiet_step (fail))
                          go_big_quiet_step ((go_at_call 134; exact lat_call (decides_z _ _ ps (d : Int) vx vy z false _ (lat_rd _ rt) hl hcx hcy HZ.out HFT.out)))
                          repeat (go_big_quiet_step (fail))
                          refine wpQuiet_nil ?_
                          intro w4 hb4
                          have TT := bs hbt hb4
                          clear hbt hb4 rt
                          go_wp2
                          go_ret
                          exact ⟨ret_bool (by rw [HR.out]; exact (fld_no (i := i) (n := n) (by have := HD.out; omega) hx40 hxy hy40 (by rw [← HD.out]; exact HN.out)).symm), bs T0 TT⟩
                    · have hye : y = 40 := by omega
                      have HN := Lib.hid (colB_yes HCO.out (by rw [← hye]; exact HRO.out))
                      go_wp2
                      go_roundw
                      case rel =>
                        have P : ARow ps d W wt (.int .i64 ((x : Int) + 1)) := ⟨x + 1, by omega, by go_num, HN.out, hbt⟩
                        first | exact P | exact ⟨_, P, rfl⟩ | exact ⟨_, _, P, rfl, rfl⟩ | exact ⟨_, _, _, P, rfl, rfl, rfl⟩ | exact ⟨_, _, _, _, P, rfl, rfl, rfl, rfl⟩ | exact ⟨_, _, _, _, _, P, rfl, rfl, rfl, rfl, rfl⟩ | exact ⟨_, _, _, _, _, _, P, rfl, rfl, rfl, rfl, rfl, rfl⟩ | exact ⟨_, _, _, _, _, _, _, P, rfl, rfl, rfl, rfl, rfl, rfl, rfl⟩ | exact ⟨_, _, _, _, _, _, _, _, P, rfl, rfl, rfl, rfl, rfl, rfl, rfl, rfl⟩
                      case measure => simp [intOf]; omega
                · have hxe : x = 40 := by omega
                  have HN := Lib.hid (fldB_next HF.out (by rw [← HD.out, ← hxe]; exact HCO.out))
                  go_wp2
                  go_roundw
                  case rel =>
                    have P : AFl ps i j W ws (.int .i64 ((d : Int) + 1)) := ⟨n + 1, by have := HD.out; omega, by have := HD.out; subst this; go_num, HN.out, hbs⟩
                    first | exact P | exact ⟨_, P, rfl⟩ | exact ⟨_, _, P, rfl, rfl⟩ | exact ⟨_, _, _, P, rfl, rfl, rfl⟩ | exact ⟨_, _, _, _, P, rfl, rfl, rfl, rfl⟩ | exact ⟨_, _, _, _, _, P, rfl, rfl, rfl, rfl, rfl⟩ | exact ⟨_, _, _, _, _, _, P, rfl, rfl, rfl, rfl, rfl, rfl⟩ | exact ⟨_, _, _, _, _, _, _, P, rfl, rfl, rfl, rfl, rfl, rfl, rfl⟩ | exact ⟨_, _, _, _, _, _, _, _, P, rfl, rfl, rfl, rfl, rfl, rfl, rfl, rfl⟩
                  case measure => simp [intOf]; omega
        · have HN := Lib.hid (fld_yes (show i + n = j by omega) HF.out HIN.out)
          go_wp2
          go_ret
          exact ⟨ret_bool (by rw [HR.out, HN.out]), bs T0 hbn⟩
end Go.Proofs.Ytoakjfoioijaaaa
