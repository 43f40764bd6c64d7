/- slices.SortStableFunc over []int64: the insertion sort of a part of the row, at a closure that compares by keys. -/
import Derived.Test.YteeaeomkpecflaaSortFn
namespace Go.Proofs.Yteeaeomkpecflaa
open Go.RowKit

/-- What is asked of the closure: at numbers below n, in every world that holds what lay below base, it compares and leaves old memory alone. -/
def CmpOk (F : FuncId) (cb : Array Value) (cf : Int → Int → Int) (base n : Nat) (w : World) : Prop :=
  ∀ x y : Int, 0 ≤ x → x < n → 0 ≤ y → y < n → ∀ w', Below base w w' → Calls Try.prog F (#[.int .i64 x, .int .i64 y] ++ cb) w' fun e w'' => e = .returned (.int .i64 (cf x y)) ∧ Below w'.heap.size w' w''
theorem CmpOk.later {F : FuncId} {cb : Array Value} {cf : Int → Int → Int} {base n : Nat} {w w' : World} (h : CmpOk F cb cf base n w) (hb : Below base w w') : CmpOk F cb cf base n w' :=
  fun x y h1 h2 h3 h4 w'' hb' => h x y h1 h2 h3 h4 w'' (hb.trans hb')
theorem grown_base {w w' : World} {base g : Nat} (h : w.grownBy w' (some g)) (hg : base ≤ g) (hb : base ≤ w.heap.size) : Below base w w' :=
  (Below.refl _ _).grown h hb fun k hk => by injection hk with hk; omega
def Vals (f : Nat → Int) (n : Nat) : Prop := ∀ k, k < n → 0 ≤ f k ∧ f k < n
theorem Vals.perm {f g : Nat → Int} {n : Nat} (h : Vals f n) (hp : (rowF g n).Perm (rowF f n)) : Vals g n := by
  intro k hk
  have h1 : g k ∈ rowF g n := List.mem_map.2 ⟨k, List.mem_range.2 hk, rfl⟩
  obtain ⟨j, hj, e⟩ := List.mem_map.1 (hp.mem_iff.1 h1)
  rw [← e]
  exact h j (List.mem_range.1 hj)
theorem Row.base {w : World} {base g n c : Nat} {f : Nat → Int} (h : Row w base g n c f) : base ≤ g ∧ g < w.heap.size := h.lt g rfl

set_option maxRecDepth 20000 in
set_option maxHeartbeats 8000000 in
theorem insertion_any (base g n c a b : Nat) (F : FuncId) (cb : Array Value) (cf : Int → Int → Int) (key : Int → Int) (f : Nat → Int) (w : World) (eg : ∀ args w, (callFunc F args).run Try.prog w = .ok (.enter F args) w)
    (hcmp : CmpOk F cb cf base n w) (hcf : ∀ x y : Int, 0 ≤ x → x < n → 0 ≤ y → y < n → (cf x y < 0 ↔ key x < key y)) (h : Row w base g n c f) (hv : Vals f n) (hab : a ≤ b) (hb : b ≤ n) (hn : n ≤ 1048576) :
    Calls Try.prog 145 #[.slice (some ⟨g, 0, none⟩) n c, .int .i64 a, .int .i64 b, .func (.func F) #[] cb] w fun e w' => e = .returned (.tuple #[]) ∧ Row w' base g n c (insRun key a (b - a - 1) f) ∧ w.grownBy w' (some g) := by
  have HC := Lib.hid hcmp
  have HF := Lib.hid hcf
  obtain ⟨hbg, hgw⟩ := h.base
  have hbw : base ≤ w.heap.size := by omega
  clear hcmp hcf
  go_enter Try.func145, Try.ntmps145
  go_wp2
  go_loopw [8] (fun vi wr => ∃ (m : Nat) (G : Nat → Int), (m ≤ b - a - 1) ∧ vi = .int .i64 ((a + 1 + m : Nat) : Int) ∧ Hid (G = insRun key a m f) ∧ Vals G n ∧ Row wr base g n c G ∧ w.grownBy wr (some g)) (fun vi _ => b + 1 - (intOf vi).toNat)
  case atStart => exact ⟨0, f, by omega, by go_num, Lib.hid rfl, hv, h, World.grownBy.refl w _⟩
  case round =>
    obtain ⟨wo, rfl⟩ : ∃ wo : World, wo = wr := ⟨_, rfl⟩
    obtain ⟨m, G, hm, rfl, HG, hvG, hrow, hgr⟩ := hrel
    obtain ⟨i, hi⟩ : ∃ i, i = a + 1 + m := ⟨_, rfl⟩
    rw [← hi]
    by_cases hlt : i < b
    · have HI := Lib.hid hi
      have HVG := Lib.hid hvG
      have i1 : (i : Int) < (b : Int) := by omega
      have HAI := Lib.hid (show a + 1 ≤ i by omega)
      clear hi hvG
      go_wp2
      go_loopw [9] (fun vj wr => ∃ (j : Nat) (H : Nat → Int), a ≤ j ∧ j ≤ i ∧ vj = .int .i64 j ∧ Hid (insIn key a j H = insIn key a i G) ∧ Vals H n ∧ Row wr base g n c H ∧ w.grownBy wr (some g)) (fun vj _ => (intOf vj).toNat)
      case atStart => exact ⟨i, G, by have := HAI.out; omega, Nat.le_refl _, rfl, Lib.hid rfl, HVG.out, hrow, hgr⟩
      case round =>
        obtain ⟨wq, rfl⟩ : ∃ wq : World, wq = wr := ⟨_, rfl⟩
        obtain ⟨j, H, haj, hji, rfl, HH, hvH, hrowH, hgrH⟩ := hrel
        have HVH := Lib.hid hvH
        have HBW := Lib.hid (grown_base hgrH hbg hbw)
        have HROW := Lib.hid hrowH
        clear hvH
        -- out of the inner loop: the outer round's end
        have OUT := Lib.hid (show (¬ (a < j ∧ key (H j) < key (H (j - 1)))) → H = insRun key a (m + 1) f from fun hn => by
          rw [show insRun key a (m + 1) f = insIn key a i G by rw [HG]; simp only [insRun, HI.out], ← HH]
          cases j with
          | zero => rfl
          | succ j => simp only [insIn]; rw [if_neg (by simpa using hn)])
        by_cases hja : a < j
        · obtain ⟨jp, rfl⟩ : ∃ jp, j = jp + 1 := ⟨j - 1, by omega⟩
          have hjn : jp + 1 < n := by omega
          obtain ⟨u, hu⟩ : ∃ u, u = H (jp + 1) := ⟨_, rfl⟩
          obtain ⟨v, hv'⟩ : ∃ v, v = H jp := ⟨_, rfl⟩
          have c1 := hrowH.cell (show jp + 1 < n by omega)
          have c2 := hrowH.cell (show jp < n by omega)
          rw [← hu] at c1
          rw [← hv'] at c2
          have HR := Lib.hid (show 0 ≤ u ∧ u < n ∧ 0 ≤ v ∧ v < n by rw [hu, hv']; exact ⟨(HVH.out _ hjn).1, (HVH.out _ hjn).2, (HVH.out jp (by omega)).1, (HVH.out jp (by omega)).2⟩)
          have HK := Lib.hid (show cf u v < 0 ↔ key (H (jp + 1)) < key (H (jp + 1 - 1)) by rw [Nat.add_sub_cancel, ← hu, ← hv']; exact HF.out u v HR.out.1 HR.out.2.1 HR.out.2.2.1 HR.out.2.2.2)
          obtain ⟨z, hz⟩ : ∃ z, z = cf u v := ⟨_, rfl⟩
          have HZ := Lib.hid hz
          rw [← hz] at HK
          have hcl := Lib.hid (fun x : Later wq => (show Calls Try.prog F (#[.int .i64 u, .int .i64 v] ++ cb) x.val fun e w'' => e = .returned (.int .i64 z) ∧ Below x.val.heap.size x.val w'' by
            rw [HZ.out]
            exact HC.out u v HR.out.1 HR.out.2.1 HR.out.2.2.1 HR.out.2.2.2 _ (HBW.out.trans (x.below.mono (show base ≤ wq.heap.size from Nat.le_trans hbw hgrH.size)))))
          have HU := Lib.hid hu
          have HV := Lib.hid hv'
          have hwp : IntKind.i64.wrap (jp : Int) = (jp : Int) := by rw [IntKind.wrap_i64]; omega
          have jz : (jp : Int) + 1 < (n : Int) := by omega
          have jz1 : (jp : Int) < (n : Int) := by omega
          have hjaz' : (a : Int) < (jp : Int) + 1 := by omega
          have p0 : (0 : Int) ≤ (jp : Int) + 1 := by omega
          have e0 : ((jp : Int) + 1).toNat = jp + 1 := by omega
          have l1 := fun x : Later wq => lat_cell x c1
          have l2 := fun x : Later wq => lat_cell x c2
          clear hz hu hv'
          by_cases hlv : z < 0
          · have HKT := Lib.hid (show a < jp + 1 ∧ key (H (jp + 1)) < key (H jp) from ⟨hja, by have := HK.out.1 hlv; rwa [Nat.add_sub_cancel] at this⟩)
            have HIN := Lib.hid (show insIn key a jp (fsw H (jp + 1) jp) = insIn key a i G by rw [← HH]; simp only [insIn]; rw [if_pos HKT.out])
            go_wp2_with fail
            refine wp_region_later (by kernel_rfl) (by kernel_rfl) ?_
            repeat (go_big_quiet_step ((exact lat_call (hcl.out _))))
            refine wpQuiet_nil ?_
            intro w4 hb4
            have hrow4 := HROW.out.bs hb4
            have d1 := cell_later hb4 c1
            have d2 := cell_later hb4 c2
            have g1 := hrow4.froz (jp + 1)
            have g2 := hrow4.froz jp
            have d3 := hrow4.two (p := jp + 1) (q := jp) HV.out (by omega)
            have HROW4 := Lib.hid hrow4
            have HGR4 := Lib.hid (grown_below hgrH hb4)
            clear l1 l2 c1 c2 hrow4 hb4 hrowH hgrH
            go_wp2_with fail
            obtain ⟨j1, hj1⟩ : ∃ j1, j1 = jp + 1 := ⟨_, rfl⟩
            rw [← hj1] at d1 g1 d3 e0
            have J1 := Lib.hid hj1
            clear hj1
            go_region
            go_wp2
            go_roundw
            case rel =>
              refine ⟨jp, fsw H (jp + 1) jp, by have := HKT.out.1; omega, by omega, by first | rfl | go_num | (congr 1; omega), HIN.out, HVH.out.perm (perm_fsw H n (jp + 1) jp hjn (by omega)), ?_, ?_⟩
              · rw [J1.out, HU.out, HV.out]
                exact HROW4.out.sw'
              · exact grown_drew (grown_trans HGR4.out (HROW4.out.grown j1 jp _ _))
            case measure => (simp [intOf]; try omega)
          · have HEQ := Lib.hid (OUT.out (fun hn => hlv (HK.out.2 hn.2)))
            go_wp2_with fail
            refine wp_region_later (by kernel_rfl) (by kernel_rfl) ?_
            repeat (go_big_quiet_step ((exact lat_call (hcl.out _))))
            refine wpQuiet_nil ?_
            intro w4 hb4
            have HROW4 := Lib.hid (HROW.out.bs hb4)
            have HGR4 := Lib.hid (grown_below hgrH hb4)
            clear l1 l2 c1 c2 hb4 hrowH hgrH
            go_wp2
            go_roundw
            case rel => exact ⟨m + 1, H, by have := HI.out; omega, by rw [HI.out]; first | done | go_num, HEQ.out, HVH.out, HROW4.out, HGR4.out⟩
            case measure => (simp [intOf]; try omega)
        · have HEQ := Lib.hid (OUT.out (fun hn => hja hn.1))
          have hjaz : decide ((j : Int) > (a : Int)) = false := decide_eq_false (by omega)
          have hjaz' : ¬ (a : Int) < (j : Int) := by omega
          go_wp2_with fail
          refine wp_region_later (by kernel_rfl) (by kernel_rfl) ?_
          repeat (go_big_quiet_step (fail))
          refine wpQuiet_nil ?_
          intro w4 hb4
          have HROW4 := Lib.hid (HROW.out.bs hb4)
          have HGR4 := Lib.hid (grown_below hgrH hb4)
          clear hb4 hrowH hgrH
          go_wp2
          go_roundw
          case rel => exact ⟨m + 1, H, by have := HI.out; omega, by rw [HI.out]; first | done | go_num, HEQ.out, HVH.out, HROW4.out, HGR4.out⟩
          case measure => (simp [intOf]; try omega)
    · have HE := Lib.hid (show G = insRun key a (b - a - 1) f by rw [HG]; congr 1; omega)
      have i1 : ¬ (i : Int) < (b : Int) := by omega
      go_wp2
      go_end0
      exact ⟨rfl, by rw [← HE.out]; exact hrow, hgr⟩
end Go.Proofs.Yteeaeomkpecflaa
