/- JoinCopies in the program and in the reference. -/
import Derived.Test.YtckgicekpkgcnaaCopies
import Derived.Deep.RegionLaw
namespace Go.Proofs.Ytckgicekpkgcnaa
open Go.RowKit

def joinRow (y : Int × Int) (a : List (Int × Int)) : List (Int × Int) := (a.filter fun x => x.2 == y.1).map fun x => (x.1, y.2)
def joinOf (a b : List (Int × Int)) : List (Int × Int) := b.flatMap fun y => joinRow y a
theorem joinRow_le (y : Int × Int) (a : List (Int × Int)) : (joinRow y a).length ≤ a.length := by
  rw [joinRow, List.length_map]
  exact List.length_filter_le _ _
theorem joinRow_succ {y : Int × Int} {a : List (Int × Int)} {k : Nat} (hk : k < a.length) : joinRow y (a.take (k + 1)) = joinRow y (a.take k) ++ (if a[k].2 = y.1 then [(a[k].1, y.2)] else []) := by
  unfold joinRow
  rw [List.take_succ_eq_append_getElem hk, List.filter_append, List.map_append]
  congr 1
  by_cases h : a[k].2 = y.1 <;> simp [h]
theorem joinRow_yes {y : Int × Int} {a : List (Int × Int)} {k : Nat} (hk : k < a.length) (h : a[k].2 = y.1) : joinRow y (a.take (k + 1)) = joinRow y (a.take k) ++ [(a[k].1, y.2)] := by
  rw [joinRow_succ hk, if_pos h]
theorem joinRow_no {y : Int × Int} {a : List (Int × Int)} {k : Nat} (hk : k < a.length) (h : ¬ a[k].2 = y.1) : joinRow y (a.take (k + 1)) = joinRow y (a.take k) := by
  rw [joinRow_succ hk, if_neg h, List.append_nil]
theorem joinOf_succ {a b : List (Int × Int)} {j : Nat} (hj : j < b.length) : joinOf a (b.take (j + 1)) = joinOf a (b.take j) ++ joinRow b[j] a := by
  unfold joinOf
  rw [List.take_succ_eq_append_getElem hj, List.flatMap_append]
  simp
theorem joinOf_le (a b : List (Int × Int)) : (joinOf a b).length ≤ b.length * a.length := by
  induction b with
  | nil => simp [joinOf]
  | cons y b ih =>
    have := joinRow_le y a
    simp only [joinOf, List.flatMap_cons, List.length_append, List.length_cons] at ih ⊢
    rw [Nat.add_mul]
    omega
theorem plain_ge {ps : List (Int × Int)} (h : plainB ps = true) : ∀ k (hk : k < ps.length), (k : Int) ≤ ps[k].2 ∧ ps[k].2 ≤ 19 := by
  intro k
  have hat : ∀ i, i < ps.length → plainAt ps i = true := fun i hi => List.all_eq_true.1 h i (List.mem_range.2 hi)
  induction k with
  | zero =>
    intro hk
    have := hat 0 hk
    simp [plainAt, List.getD, hk] at this
    have h2 := insideB_true this.2
    exact ⟨by omega, by omega⟩
  | succ k ih =>
    intro hk
    have h1 := ih (by omega)
    have := hat (k + 1) hk
    simp [plainAt, List.getD, hk, show k < ps.length by omega] at this
    have h2 := insideB_true this.2.1
    exact ⟨by omega, by omega⟩
theorem plain_len {ps : List (Int × Int)} (h : plainB ps = true) : ps.length ≤ 20 := by
  rcases Nat.lt_or_ge 20 ps.length with hl | hl
  · have := plain_ge h 20 hl
    omega
  · exact hl
def joinOk (a b : List (Int × Int)) : Bool := plainB a && plainB b
def joinRes (a b : List (Int × Int)) : List (Int × Int) := if joinOk a b = true then joinOf a b else []
def joinCode (a b : List (Int × Int)) : Int := if joinOk a b = true then 0 else 2
theorem joinRes_length (a b : List (Int × Int)) : (joinRes a b).length ≤ 400 := by
  unfold joinRes
  split
  · rename_i h
    simp only [joinOk, Bool.and_eq_true] at h
    have h1 := joinOf_le a b
    have h2 := plain_len h.1
    have h3 := plain_len h.2
    have h4 : b.length * a.length ≤ 20 * 20 := Nat.mul_le_mul h3 h2
    omega
  · simp

set_option maxRecDepth 100000 in
set_option maxHeartbeats 2000000 in
theorem JoinCopies_any (A : Option Addr) (c : Nat) (as_ : List (Int × Int)) (A' : Option Addr) (c' : Nat) (bs_ : List (Int × Int)) (w : World) (ha : Rd w w.heap.size 2 A as_.length (prs as_)) (hla : as_.length ≤ 1048576) (hb : Rd w w.heap.size 2 A' bs_.length (prs bs_)) (hlb : bs_.length ≤ 1048576) :
    Calls Try.prog 33 #[.slice A as_.length c, .slice A' bs_.length c'] w fun e w' => ∃ B d, e = .returned (.tuple #[.slice B (joinRes as_ bs_).length d, .int .i64 (joinCode as_ bs_)]) ∧
      w'.ownsRow w.heap.size 85 2 (.slice B (joinRes as_ bs_).length d) (joinRes as_ bs_).length (prs (joinRes as_ bs_)) ∧ Below w.heap.size w w' := by
  obtain ⟨i0, hi, hz0, hz1, hz2⟩ := info_parts info_iCopy
  rcases Bool.eq_false_or_eq_true (plainB as_) with hpa | hpa
  · rcases Bool.eq_false_or_eq_true (plainB bs_) with hpb | hpb
    · have hna := plain_len hpa
      have hnb := plain_len hpb
      have hr := Lib.hid (show joinRes as_ bs_ = joinOf as_ bs_ by unfold joinRes; rw [if_pos (by simp [joinOk, hpa, hpb])])
      have hc := Lib.hid (show joinCode as_ bs_ = 0 by unfold joinCode; rw [if_pos (by simp [joinOk, hpa, hpb])])
      go_enter Try.func33, Try.ntmps33
      go_wp2_with fail
      refine (isPlain_any _ _ _ _ ha hla).mono ?_; rintro e w1 ⟨rfl, hb1⟩
      replace ha := ha.up hb1
      replace hb := hb.up hb1
      go_wp2_with fail
      refine (isPlain_any _ _ _ _ hb hlb).mono ?_; rintro e w2 ⟨rfl, hb2⟩
      replace ha := ha.up hb2
      replace hb := hb.up hb2
      have T2 := bs hb1 hb2
      clear hb1 hb2
      go_wp2
      clear hpa hpb
      go_loopw [6, 22] (fun v q wr => ∃ (j : Nat) (B : Option Addr) (n d : Nat), j ≤ bs_.length ∧ q = .int .i64 j ∧ v = .slice B n d ∧ n = (joinOf as_ (bs_.take j)).length ∧ wr.ownsRow w2.heap.size 85 2 (.slice B n d) n (prs (joinOf as_ (bs_.take j))) ∧ Below w2.heap.size w2 wr)
        (fun _ q _ => bs_.length - (intOf q).toNat)
      case atStart => exact ⟨0, _, 0, 0, Nat.zero_le _, by go_num, rfl, rfl, own_lit _ #[] 0 (by simp) (by simp) (by omega) rfl, (Below.refl _ _).alloc (by simp) _⟩
      case round =>
        obtain ⟨j, B, n, d, hj, rfl, rfl, hn, hown, hbw⟩ := hrel
        have HN := Lib.hid hn
        clear hn
        have hsz := hbw.size
        by_cases hlt : j < bs_.length
        · obtain ⟨b, off, rfl, hbb, hc'⟩ := hb.at_ hlt
          have h1 := (hbw.cell (p := ⟨b, off + j * 2, none⟩) hbb).trans (hc' _ _ (prs_fst bs_ j hlt))
          have h2 := (hbw.cell (p := ⟨b, off + (j * 2 + 1), none⟩) hbb).trans (hc' _ _ (prs_snd bs_ j hlt))
          rw [← Nat.add_assoc] at h2
          clear hc'
          obtain ⟨wo, rfl⟩ : ∃ wo : World, wo = wr := ⟨_, rfl⟩
          have hwo : w2.heap.size ≤ wo.heap.size := hsz
          go_wp2
          go_loopw [6, 28] (fun v q wi => ∃ (k : Nat) (B' : Option Addr) (m d' : Nat), k ≤ as_.length ∧ q = .int .i64 k ∧ v = .slice B' m d' ∧ m = (joinOf as_ (bs_.take j) ++ joinRow bs_[j] (as_.take k)).length ∧ wi.ownsRow w2.heap.size 85 2 (.slice B' m d') m (prs (joinOf as_ (bs_.take j) ++ joinRow bs_[j] (as_.take k))) ∧ Below w2.heap.size w2 wi ∧
              wi.cell? ⟨wo.heap.size, 0, none⟩ = some (.int .i64 bs_[j].1) ∧ wi.cell? ⟨wo.heap.size, 1, none⟩ = some (.int .i64 bs_[j].2) ∧ wo.heap.size < wi.heap.size ∧ (∀ ad, B' = some ad → ad.block ≠ wo.heap.size))
            (fun _ q _ => as_.length - (intOf q).toNat)
          case atStart => exact ⟨0, B, n, d, Nat.zero_le _, by go_num, rfl, by rw [List.take_zero]; simpa [joinRow] using HN.out, by simpa [joinRow] using hown.alloc _, hbw.alloc hwo _, by simp, by simp, by simp, by
            intro ad had
            subst had
            have := (hown.lt ad.block rfl).2
            omega⟩
          case round =>
            obtain ⟨k, B', m, d', hk, rfl, rfl, hm, hown', hbi, hy1, hy2, hwi, hne⟩ := hrel
            have HM := Lib.hid hm
            have hmle : m ≤ 1048576 := by
              have h3 := joinOf_le as_ (bs_.take j)
              have h4 := joinRow_le bs_[j] (as_.take k)
              rw [List.length_take] at h3 h4
              have h5 : min j bs_.length * as_.length ≤ 20 * 20 := Nat.mul_le_mul (by omega) (by omega)
              rw [hm, List.length_append]
              omega
            clear hm
            have hsi := hbi.size
            by_cases hltk : k < as_.length
            · obtain ⟨p, poff, rfl, hpb, hcp⟩ := ha.at_ hltk
              have g1 := (hbi.cell (p := ⟨p, poff + k * 2, none⟩) hpb).trans (hcp _ _ (prs_fst as_ k hltk))
              have g2 := (hbi.cell (p := ⟨p, poff + (k * 2 + 1), none⟩) hpb).trans (hcp _ _ (prs_snd as_ k hltk))
              rw [← Nat.add_assoc] at g2
              clear hcp
              by_cases heq : as_[k].2 = bs_[j].1
              · have HK := Lib.hid (joinRow_yes hltk heq)
                have hbq : (as_[k].2 == bs_[j].1) = true := by simpa using heq
                clear heq
                go_wp2_with (at_builtin; refine wpList_ap rfl (.tmp 37) (.tmp 43) 41 rfl w2.heap.size 85 i0 _ 2 16 Try.underlying41 hi hz0 hz1 hz2 rfl (by omega) B' m d' _ rfl _ (hown'.alloc _) 1 _ _ (by simp) rfl rfl (prs_one [(as_[k].1, bs_[j].2)]) (by omega) (by omega) (by omega) (by simp; omega) ?_; intro g cap w3 hown3 hb3 hg3 hat3 hlt3)
                have hz3 := hg3.size
                simp only [World.size_alloc] at hz3
                have hnb : some wo.heap.size ≠ (Value.slice B' m d').ownBlock := by
                  intro hh
                  obtain ⟨ad, had, hbk⟩ := ownBlock_some hh.symm
                  exact hne ad had hbk
                go_roundw
                case rel => exact ⟨k + 1, _, _, _, by omega, by go_num, rfl, by rw [HK.out, ← List.append_assoc, List.length_append, ← HM.out]; rfl, by rw [HK.out, ← List.append_assoc, prs_append]; exact hown3, (hbi.alloc hsi _).trans hb3,
                  hg3.cell (a := ⟨wo.heap.size, 0, none⟩) (by rw [World.cell?_alloc_lt _ _ _ (by exact hwi), hy1]) hnb, hg3.cell (a := ⟨wo.heap.size, 1, none⟩) (by rw [World.cell?_alloc_lt _ _ _ (by exact hwi), hy2]) hnb, by omega, by
                  intro ad had
                  injection had with had
                  subst had
                  rcases hat3 with h | h
                  · exact hne _ h
                  · simp only [World.size_alloc] at h
                    simp only
                    omega⟩
                case measure => simp [intOf]; omega
              · have HK := Lib.hid (joinRow_no hltk heq)
                have hbq : (as_[k].2 == bs_[j].1) = false := by simpa using heq
                clear heq
                go_wp2
                go_roundw
                case rel => exact ⟨k + 1, B', m, d', by omega, by go_num, rfl, by rw [HK.out]; exact HM.out, by rw [HK.out]; exact hown'.alloc _, hbi.alloc hsi _, by rw [World.cell?_alloc_lt _ _ _ (by exact hwi), hy1], by rw [World.cell?_alloc_lt _ _ _ (by exact hwi), hy2], by simp; omega, hne⟩
                case measure => simp [intOf]; omega
            · obtain rfl : k = as_.length := by omega
              have HJ := Lib.hid (joinOf_succ (a := as_) hlt)
              have hfin := Lib.hid (show as_.take as_.length = as_ from List.take_length)
              go_wp2
              go_roundw
              case rel => exact ⟨j + 1, B', m, d', by omega, by go_num, rfl, by rw [HJ.out]; rw [hfin.out] at HM; exact HM.out, by rw [HJ.out]; rw [hfin.out] at hown'; exact hown', hbi⟩
              case measure => simp [intOf]; omega
        · obtain rfl : j = bs_.length := by omega
          have hfin := Lib.hid (show joinOf as_ (bs_.take bs_.length) = joinOf as_ bs_ by rw [List.take_length])
          go_wp2
          go_ret2
          have hn := HN.out
          rw [hfin.out] at hn hown
          subst hn
          rw [hr.out, hc.out]
          exact ⟨B, d, rfl, own_base hown T2.size, bs T2 hbw⟩
    · have hr := Lib.hid (show joinRes as_ bs_ = [] by unfold joinRes; rw [if_neg (by simp [joinOk, hpa, hpb])])
      have hc := Lib.hid (show joinCode as_ bs_ = 2 by unfold joinCode; rw [if_neg (by simp [joinOk, hpa, hpb])])
      go_enter Try.func33, Try.ntmps33
      go_wp2_with fail
      refine (isPlain_any _ _ _ _ ha hla).mono ?_; rintro e w1 ⟨rfl, hb1⟩
      replace hb := hb.up hb1
      go_wp2_with fail
      refine (isPlain_any _ _ _ _ hb hlb).mono ?_; rintro e w2 ⟨rfl, hb2⟩
      go_wp2
      go_ret2
      rw [hr.out, hc.out]
      exact ⟨none, 0, rfl, World.ownsRow_nil _ _ _ _, bs hb1 hb2⟩
  · have hr := Lib.hid (show joinRes as_ bs_ = [] by unfold joinRes; rw [if_neg (by simp [joinOk, hpa])])
    have hc := Lib.hid (show joinCode as_ bs_ = 2 by unfold joinCode; rw [if_neg (by simp [joinOk, hpa])])
    go_enter Try.func33, Try.ntmps33
    go_wp2_with fail
    refine (isPlain_any _ _ _ _ ha hla).mono ?_; rintro e w1 ⟨rfl, hb1⟩
    go_wp2
    go_ret2
    rw [hr.out, hc.out]
    exact ⟨none, 0, rfl, World.ownsRow_nil _ _ _ _, hb1⟩

set_option maxRecDepth 100000 in
set_option maxHeartbeats 2000000 in
theorem spJoinCopies_any (A : Option Addr) (c : Nat) (as_ : List (Int × Int)) (A' : Option Addr) (c' : Nat) (bs_ : List (Int × Int)) (w : World) (ha : Rd w w.heap.size 2 A as_.length (prs as_)) (hla : as_.length ≤ 1048576) (hb : Rd w w.heap.size 2 A' bs_.length (prs bs_)) (hlb : bs_.length ≤ 1048576) :
    Calls Try.prog 32 #[.slice A as_.length c, .slice A' bs_.length c'] w fun e w' => ∃ B d, e = .returned (.tuple #[.slice B (joinRes as_ bs_).length d, .int .i64 (joinCode as_ bs_)]) ∧
      w'.ownsRow w.heap.size 85 2 (.slice B (joinRes as_ bs_).length d) (joinRes as_ bs_).length (prs (joinRes as_ bs_)) ∧ Below w.heap.size w w' := by
  obtain ⟨i0, hi, hz0, hz1, hz2⟩ := info_parts info_iCopy
  rcases Bool.eq_false_or_eq_true (plainB as_) with hpa | hpa
  · rcases Bool.eq_false_or_eq_true (plainB bs_) with hpb | hpb
    · have hna := plain_len hpa
      have hnb := plain_len hpb
      have hr := Lib.hid (show joinRes as_ bs_ = joinOf as_ bs_ by unfold joinRes; rw [if_pos (by simp [joinOk, hpa, hpb])])
      have hc := Lib.hid (show joinCode as_ bs_ = 0 by unfold joinCode; rw [if_pos (by simp [joinOk, hpa, hpb])])
      go_enter Try.func32, Try.ntmps32
      go_wp2_with fail
      refine (l10Plain_any _ _ _ _ ha hla).mono ?_; rintro e w1 ⟨rfl, hb1⟩
      replace ha := ha.up hb1
      replace hb := hb.up hb1
      go_wp2_with fail
      refine (l10Plain_any _ _ _ _ hb hlb).mono ?_; rintro e w2 ⟨rfl, hb2⟩
      replace ha := ha.up hb2
      replace hb := hb.up hb2
      have T2 := bs hb1 hb2
      clear hb1 hb2
      go_wp2
      clear hpa hpb
      go_loopw [6, 7] (fun v q wr => ∃ (j : Nat) (B : Option Addr) (n d : Nat), j ≤ bs_.length ∧ q = .int .i64 j ∧ v = .slice B n d ∧ n = (joinOf as_ (bs_.take j)).length ∧ wr.ownsRow w2.heap.size 85 2 (.slice B n d) n (prs (joinOf as_ (bs_.take j))) ∧ Below w2.heap.size w2 wr)
        (fun _ q _ => bs_.length - (intOf q).toNat)
      case atStart => exact ⟨0, _, 0, 0, Nat.zero_le _, by go_num, rfl, rfl, own_lit _ #[] 0 (by simp) (by simp) (by omega) rfl, (Below.refl _ _).alloc (by simp) _⟩
      case round =>
        obtain ⟨j, B, n, d, hj, rfl, rfl, hn, hown, hbw⟩ := hrel
        have HN := Lib.hid hn
        clear hn
        have hsz := hbw.size
        by_cases hlt : j < bs_.length
        · obtain ⟨b, off, rfl, hbb, hc'⟩ := hb.at_ hlt
          have e1 := hc' _ _ (prs_fst bs_ j hlt)
          have e2 := hc' _ _ (prs_snd bs_ j hlt)
          have E1 := Lib.hid e1
          have E2 := Lib.hid e2
          clear hc' e1 e2
          obtain ⟨wo, rfl⟩ : ∃ wo : World, wo = wr := ⟨_, rfl⟩
          go_wp2
          go_loopw [6, 8] (fun v q wi => ∃ (k : Nat) (B' : Option Addr) (m d' : Nat), k ≤ as_.length ∧ q = .int .i64 k ∧ v = .slice B' m d' ∧ m = (joinOf as_ (bs_.take j) ++ joinRow bs_[j] (as_.take k)).length ∧ wi.ownsRow w2.heap.size 85 2 (.slice B' m d') m (prs (joinOf as_ (bs_.take j) ++ joinRow bs_[j] (as_.take k))) ∧ Below w2.heap.size w2 wi)
            (fun _ q _ => as_.length - (intOf q).toNat)
          case atStart => exact ⟨0, B, n, d, Nat.zero_le _, by go_num, rfl, by rw [List.take_zero]; simpa [joinRow] using HN.out, by simpa [joinRow] using hown, hbw⟩
          case round =>
            obtain ⟨k, B', m, d', hk, rfl, rfl, hm, hown', hbi⟩ := hrel
            have HM := Lib.hid hm
            have hmle : m ≤ 1048576 := by
              have h3 := joinOf_le as_ (bs_.take j)
              have h4 := joinRow_le bs_[j] (as_.take k)
              rw [List.length_take] at h3 h4
              have h5 : min j bs_.length * as_.length ≤ 20 * 20 := Nat.mul_le_mul (by omega) (by omega)
              rw [hm, List.length_append]
              omega
            clear hm
            have hsi := hbi.size
            have f1 := (hbi.cell (p := ⟨b, off + j * 2, none⟩) hbb).trans E1.out
            have f2 := (hbi.cell (p := ⟨b, off + (j * 2 + 1), none⟩) hbb).trans E2.out
            rw [← Nat.add_assoc] at f2
            by_cases hltk : k < as_.length
            · obtain ⟨p, poff, rfl, hpb, hcp⟩ := ha.at_ hltk
              have g1 := (hbi.cell (p := ⟨p, poff + k * 2, none⟩) hpb).trans (hcp _ _ (prs_fst as_ k hltk))
              have g2 := (hbi.cell (p := ⟨p, poff + (k * 2 + 1), none⟩) hpb).trans (hcp _ _ (prs_snd as_ k hltk))
              rw [← Nat.add_assoc] at g2
              clear hcp
              by_cases heq : as_[k].2 = bs_[j].1
              · have HK := Lib.hid (joinRow_yes hltk heq)
                have hbq : (as_[k].2 == bs_[j].1) = true := by simpa using heq
                clear heq
                go_wp2
                go_quiet (fail)
                go_wp2
                have hown4 : (wr.drewN nq).ownsRow w2.heap.size 85 2 (.slice B' m d') m (prs (joinOf as_ (bs_.take j) ++ joinRow bs_[j] (as_.take k))) := hown'
                have hbi4 := below_drewN hbi nq
                have f1' : (wr.drewN nq).cell? ⟨b, off + j * 2, none⟩ = _ := f1
                have f2' : (wr.drewN nq).cell? ⟨b, off + j * 2 + 1, none⟩ = _ := f2
                have g1' : (wr.drewN nq).cell? ⟨p, poff + k * 2, none⟩ = _ := g1
                have g2' : (wr.drewN nq).cell? ⟨p, poff + k * 2 + 1, none⟩ = _ := g2
                have hsi4 : w2.heap.size ≤ (wr.drewN nq).heap.size := hsi
                clear hown' hbi f1 f2 g1 g2 hsi
                generalize wr.drewN nq = wj at *
                go_region_law (refine step_ap rfl (.tmp 41) (.tmp 53) 41 rfl w2.heap.size 85 i0 _ 2 16 Try.underlying41 hi hz0 hz1 hz2 rfl (by omega) B' m d' (prs (joinOf as_ (bs_.take j) ++ joinRow bs_[j] (as_.take k))) _ (by simp [Act.eval, Act.put]) (hown4.alloc _) 1 #[.int .i64 as_[k].1, .int .i64 bs_[j].2] wj.heap.size (heap_alloc_new wj _) (by simp [Act.eval, Act.put]) rfl (prs_one [(as_[k].1, bs_[j].2)]) (by omega) (by omega) (by omega) (by simp; omega) ?_; intro g cap w3 hown3 hb3 hg3 hlt3)
                all_goals
                  go_wp2
                  go_roundw
                  case rel => exact ⟨k + 1, _, _, _, by omega, by go_num, rfl, by rw [HK.out, ← List.append_assoc, List.length_append, ← HM.out]; rfl, by rw [HK.out, ← List.append_assoc, prs_append]; exact hown3, (hbi4.alloc hsi4 _).drew.trans hb3⟩
                  case measure => simp [intOf]; omega
              · have HK := Lib.hid (joinRow_no hltk heq)
                have hbq : (as_[k].2 == bs_[j].1) = false := by simpa using heq
                clear heq
                go_wp2
                go_quiet (fail)
                go_wp2
                go_roundw
                case rel => exact ⟨k + 1, B', m, d', by omega, by go_num, rfl, by rw [HK.out]; exact HM.out, by rw [HK.out]; exact hown', below_drewN hbi _⟩
                case measure => simp [intOf]; omega
            · obtain rfl : k = as_.length := by omega
              have HJ := Lib.hid (joinOf_succ (a := as_) hlt)
              have hfin := Lib.hid (show as_.take as_.length = as_ from List.take_length)
              go_wp2
              go_roundw
              case rel => exact ⟨j + 1, B', m, d', by omega, by go_num, rfl, by rw [HJ.out]; rw [hfin.out] at HM; exact HM.out, by rw [HJ.out]; rw [hfin.out] at hown'; exact hown', hbi⟩
              case measure => simp [intOf]; omega
        · obtain rfl : j = bs_.length := by omega
          have hfin := Lib.hid (show joinOf as_ (bs_.take bs_.length) = joinOf as_ bs_ by rw [List.take_length])
          go_wp2
          go_ret2
          have hn := HN.out
          rw [hfin.out] at hn hown
          subst hn
          rw [hr.out, hc.out]
          exact ⟨B, d, rfl, own_base hown T2.size, bs T2 hbw⟩
    · have hr := Lib.hid (show joinRes as_ bs_ = [] by unfold joinRes; rw [if_neg (by simp [joinOk, hpa, hpb])])
      have hc := Lib.hid (show joinCode as_ bs_ = 2 by unfold joinCode; rw [if_neg (by simp [joinOk, hpa, hpb])])
      go_enter Try.func32, Try.ntmps32
      go_wp2_with fail
      refine (l10Plain_any _ _ _ _ ha hla).mono ?_; rintro e w1 ⟨rfl, hb1⟩
      replace hb := hb.up hb1
      go_wp2_with fail
      refine (l10Plain_any _ _ _ _ hb hlb).mono ?_; rintro e w2 ⟨rfl, hb2⟩
      go_wp2
      go_ret2
      rw [hr.out, hc.out]
      exact ⟨none, 0, rfl, World.ownsRow_nil _ _ _ _, bs hb1 hb2⟩
  · have hr := Lib.hid (show joinRes as_ bs_ = [] by unfold joinRes; rw [if_neg (by simp [joinOk, hpa])])
    have hc := Lib.hid (show joinCode as_ bs_ = 2 by unfold joinCode; rw [if_neg (by simp [joinOk, hpa])])
    go_enter Try.func32, Try.ntmps32
    go_wp2_with fail
    refine (l10Plain_any _ _ _ _ ha hla).mono ?_; rintro e w1 ⟨rfl, hb1⟩
    go_wp2
    go_ret2
    rw [hr.out, hc.out]
    exact ⟨none, 0, rfl, World.ownsRow_nil _ _ _ _, hb1⟩
end Go.Proofs.Ytckgicekpkgcnaa
