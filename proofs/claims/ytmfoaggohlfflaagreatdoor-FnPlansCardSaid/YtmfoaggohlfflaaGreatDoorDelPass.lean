/- slices.DeleteFunc over []Pass on a row of the call's own, at a closure whose contract is given. -/
import Derived.Test.YtmfoaggohlfflaaGreatDoorFuncsPass
namespace Go.Proofs.YtmfoaggohlfflaaGreatDoor
open Go.RowKit

set_option maxRecDepth 100000 in
set_option maxHeartbeats 2000000 in
theorem DeleteFuncPass_any (A : Option Addr) (c base : Nat) (ps : List (Int × Int)) (F : FuncId) (cap : Array Value) (pred : Int × Int → Bool) (w : World) (ho : w.ownsRow base 76 2 (.slice A ps.length c) ps.length (prs ps)) (hB : base ≤ w.heap.size) (hl : ps.length ≤ 1048576)
    (eg : ∀ args w, (callFunc F args).run Tryz.prog w = .ok (.enter F args) w)
    (hf : ∀ p ∈ ps, ∀ w', Below base w w' → Calls Tryz.prog F (#[.agg #[.int .i64 p.1, .int .i64 p.2]] ++ cap) w' fun e w'' => e = .returned (.bool (pred p)) ∧ Below w'.heap.size w' w'') :
    Calls Tryz.prog 44 #[.slice A ps.length c, .func (.func F) #[] cap] w fun e w' => e = .returned (.slice A (keep pred ps).length c) ∧
      w'.ownsRow base 76 2 (.slice A (keep pred ps).length c) (keep pred ps).length (prs (keep pred ps)) ∧ Below base w w' := by
  have hcon := Lib.hid (IndexFuncPass_any A c ps F cap pred w (Rd.own ho) hl eg (fun p hp w' hb => hf p hp w' (hb.mono hB)))
  have HF := Lib.hid hf
  clear hf
  rcases Bool.eq_false_or_eq_true (ps.any pred) with hany | hany
  · obtain ⟨k, hk, hno, hpk⟩ := any_first hany
    have hidx := Lib.hid (idxP_some hk hno hpk)
    have hcap := own_cap ho
    obtain ⟨g, rfl, hg, hglt⟩ := own_at ho hk
    have hkeep := Lib.hid (show keep pred (ps.take (k + 1)) = ps.take k by rw [keep_yes hk hpk, keep_none hno])
    clear hany hno hpk
    go_enter Tryz.func44, Tryz.ntmps44
    go_wp2_with fail
    refine hcon.out.mono ?_; rintro e w1 ⟨rfl, hb1⟩
    rw [hidx.out]
    replace ho := own_bs ho hb1
    have z1 := hb1.size
    have hne : (((k : Nat) : Int) == -1) = false := by simp
    go_wp2
    go_loopw [5, 6] (fun si sj wr => ∃ (j i : Nat) (zs : List Value), j ≤ ps.length ∧ k + 1 ≤ j ∧ i < j ∧ sj = .int .i64 j ∧ si = .int .i64 i ∧ i = (keep pred (ps.take j)).length ∧ wr.ownsRow base 76 2 (.slice (some ⟨g, 0, none⟩) ps.length c) ps.length zs ∧
        zs.take (i * 2) = prs (keep pred (ps.take j)) ∧ zs.drop (j * 2) = (prs ps).drop (j * 2) ∧ Below base w wr ∧ w.heap.size ≤ wr.heap.size)
      (fun _ sj _ => ps.length - (intOf sj).toNat)
    case atStart => exact ⟨k + 1, k, prs ps, by omega, by omega, by omega, by go_num, rfl, by rw [hkeep.out, List.length_take]; omega, ho, by rw [hkeep.out]; exact prs_take ps k, rfl, hb1.mono hB, z1⟩
    case round =>
      obtain ⟨j, i, zs, hj, hkj, hij, rfl, rfl, hi, hown, htk, hdr, hbw, hzw⟩ := hrel
      have HI := Lib.hid hi
      have HTK := Lib.hid htk
      have HDR := Lib.hid hdr
      clear hi htk hdr
      have hzl := hown.1
      by_cases hlt : j < ps.length
      · have h1 := own_cell hown (j * 2) (by omega)
        have h2 := own_cell hown (j * 2 + 1) (by omega)
        have e1 : zs[j * 2]'(by omega) = .int .i64 ps[j].1 := by
          have := get_of_drop HDR.out (k := j * 2) (by omega)
          rw [prs_fst _ _ hlt, List.getElem?_eq_getElem (by omega)] at this
          exact Option.some.inj this
        have e2 : zs[j * 2 + 1]'(by omega) = .int .i64 ps[j].2 := by
          have := get_of_drop HDR.out (k := j * 2 + 1) (by omega)
          rw [prs_snd _ _ hlt, List.getElem?_eq_getElem (by omega)] at this
          exact Option.some.inj this
        rw [e1] at h1
        rw [e2] at h2
        clear e1 e2
        go_wp2_with fail
        refine (HF.out ps[j] (List.getElem_mem hlt) _ ((hbw.alloc (by omega) _))).mono ?_; rintro e w2 ⟨rfl, hb2⟩
        have kv1 : w2.cell? ⟨wr.heap.size, 0, none⟩ = some (.int .i64 ps[j].1) := cell_later hb2 (by simp)
        have kv2 : w2.cell? ⟨wr.heap.size, 1, none⟩ = some (.int .i64 ps[j].2) := cell_later hb2 (by simp)
        have z2 := hb2.size
        simp only [World.size_alloc] at z2
        have hown2 := own_bs (hown.alloc _) hb2
        have hbw2 : Below base w w2 := (hbw.alloc (by omega) (.cells #[.int .i64 ps[j].1, .int .i64 ps[j].2] 76)).trans (hb2.mono (by simp; omega))
        rcases Bool.eq_false_or_eq_true (pred ps[j]) with hp | hp
        · have HK := Lib.hid (keep_yes hlt hp)
          go_wp2
          go_roundw
          case rel => exact ⟨j + 1, i, zs, by omega, by omega, by omega, by go_num, rfl, by rw [HK.out]; exact HI.out, hown2, by rw [HK.out]; exact HTK.out, drop_more HDR.out (by omega), hbw2, by omega⟩
          case measure => simp [intOf]; omega
        · have HK := Lib.hid (keep_no hlt hp)
          have hcy := own_cell hown2 (i * 2) (by omega)
          have hcz := own_cell hown2 (i * 2 + 1) (by omega)
          have hfy := hown2.frozenAt (i * 2)
          have hfz := hown2.frozenAt (i * 2 + 1)
          have hs := ownsRow_set (ownsRow_set hown2 (i * 2) (.int .i64 ps[j].1)) (i * 2 + 1) (.int .i64 ps[j].2)
          have htn := Lib.hid (take_snoc2 (zs := zs) (i := i) (.int .i64 ps[j].1) (.int .i64 ps[j].2) (by omega))
          have hdn := Lib.hid (show ((zs.set (i * 2) (.int .i64 ps[j].1)).set (i * 2 + 1) (.int .i64 ps[j].2)).drop ((j + 1) * 2) = (prs ps).drop ((j + 1) * 2) by
            rw [drop_set _ (by omega), drop_set _ (by omega)]
            exact drop_more HDR.out (by omega))
          clear hown
          go_wp2
          go_roundw
          case rel => exact ⟨j + 1, i + 1, _, by omega, by omega, by omega, by go_num, by go_num, by rw [HK.out, List.length_append, ← HI.out]; rfl, hs, by rw [htn.out, HK.out, prs_append, HTK.out]; rfl, hdn.out, bset (bset hbw2 _ _ _ hg) _ _ _ hg, by simp; omega⟩
          case measure => simp [intOf]; omega
      · obtain rfl : j = ps.length := by omega
        have hci : ¬ c = i := by omega
        have hlen := hown.1
        obtain ⟨w3, hrun, ho3, hg3⟩ := run_clear_own (P := Tryz.prog) (t := 29) (ty := 0) Tryz.underlying29 Tryz.zeroValue76 (size := 2) rfl (by intro u hu; simp [Value.cells] at hu; subst hu; rfl) hown i (ps.length - i) (c - i) (by omega) (by omega)
        go_wp2
        go_ret
        have hi := HI.out
        have htk := HTK.out
        rw [List.take_length] at hi htk
        have hshort := own_short ho3 (j := i) (by omega)
        rw [List.append_assoc, List.take_append_of_le_length (by rw [List.length_take]; omega), List.take_take, Nat.min_self, htk] at hshort
        subst hi
        exact ⟨rfl, hshort, hbw.grown hg3 (by omega) (by intro q hq; injection hq with hq; omega)⟩
  · have hidx := Lib.hid (idxP_none hany)
    have hkeep := Lib.hid (keep_none hany)
    go_enter Tryz.func44, Tryz.ntmps44
    go_wp2_with fail
    refine hcon.out.mono ?_; rintro e w1 ⟨rfl, hb1⟩
    rw [hidx.out]
    go_wp2
    go_ret
    rw [hkeep.out]
    exact ⟨rfl, own_bs ho hb1, hb1.mono hB⟩
end Go.Proofs.YtmfoaggohlfflaaGreatDoor
