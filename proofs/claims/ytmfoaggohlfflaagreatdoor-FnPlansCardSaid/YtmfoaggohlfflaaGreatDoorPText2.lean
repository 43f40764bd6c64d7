/- impl.PassText. -/
import Derived.Test.YtmfoaggohlfflaaGreatDoorPText
import Derived.Lib.LaidTab
namespace Go.Proofs.YtmfoaggohlfflaaGreatDoor
open Go.RowKit

theorem tab_later {P : Program} {n : String} {k : IntKind} {zs : List Int} {w w' : World} (h : Lib.TabIs P w n k zs) (hb : Below w.heap.size w w') : Lib.TabIs P w' n k zs := by
  unfold Lib.TabIs World.var? at h ⊢
  cases hg : P.globalNamed n with
  | none => rw [hg] at h; cases h
  | some g =>
    rw [hg] at h
    simp only [Option.bind_some] at h ⊢
    have hlt : g < w.heap.size := by
      rcases Nat.lt_or_ge g w.heap.size with e | e
      · exact e
      · rw [Array.getElem?_eq_none e] at h; cases h
    rw [hb.block g hlt]
    exact h
def sts (L : List (List UInt8)) : List Value := L.map fun s => .string (bs_ s)
theorem sts_snoc (L : List (List UInt8)) (s : List UInt8) : sts (L ++ [s]) = sts L ++ [.string (bs_ s)] := by simp [sts]
theorem sts_length (L : List (List UInt8)) : (sts L).length = L.length := by simp [sts]
theorem ptoks_snoc (xs : List (Int × Int)) (k : Nat) (h : k < xs.length) : ptoks (xs.take (k + 1)) = ptoks (xs.take k) ++ [ptok xs[k]] := by
  unfold ptoks
  rw [List.take_succ_eq_append_getElem h, List.map_append]
  rfl
theorem sts_one (L : List (List UInt8)) : ∀ u ∈ sts L, u.oneCell' = true := by
  intro v hv
  simp only [sts, List.mem_map] at hv
  obtain ⟨b, _, rfl⟩ := hv
  rfl
theorem ptoks_length (xs : List (Int × Int)) : (ptoks xs).length = xs.length := by simp [ptoks]
theorem Join_any (g cg : Nat) (L : List (List UInt8)) (w : World) (base : Nat) (ho : w.ownsRow base 9 1 (.slice (some ⟨g, 0, none⟩) L.length cg) L.length (sts L)) (hN : L.length ≤ 140737488355328) (hlen : (Lib.join L [32]).length ≤ 140737488355328) :
    Calls Tryz.prog 54 #[.slice (some ⟨g, 0, none⟩) L.length cg, .string ⟨#[32]⟩] w fun e w' => e = .returned (.string (bs_ (Lib.join L [32]))) ∧ Below w.heap.size w w' := by
  have e1 : (L.map bs_).map (·.data.toList) = L := by
    rw [List.map_map]
    conv => rhs; rw [← List.map_id L]
    exact List.map_congr_left fun s _ => by simp [bs_]
  have e2 : (⟨#[32]⟩ : ByteArray).data.toList = [32] := rfl
  have h := Tryz.strings_Join g 0 cg (L.map bs_) ⟨#[32]⟩ w (fun j x hx => by
    rw [List.getElem?_map] at hx
    obtain ⟨s, hs, rfl⟩ := Option.map_eq_some_iff.1 hx
    obtain ⟨hj, rfl⟩ := List.getElem?_eq_some_iff.1 hs
    have := own_cell ho j (by rw [sts_length]; exact hj)
    rw [Nat.zero_add, this]
    simp [sts]) (own_heap ho) (by rw [List.length_map]; exact hN) (by rw [List.length_map]; have h2 := ho.2; exact (own_cap ho).1) (by rw [e1, e2]; exact hlen)
  rw [e1, e2, List.length_map] at h
  exact h
def PtR (xs : List (Int × Int)) (w wr : World) (s i : Value) : Prop :=
  ∃ (k g cg : Nat), k ≤ xs.length ∧ i = .int .i64 k ∧ s = .slice (some ⟨g, 0, none⟩) k cg ∧ (∀ j (hj : j < xs.length), j < k → modeB xs[j].2 = true) ∧ wr.ownsRow w.heap.size 9 1 (.slice (some ⟨g, 0, none⟩) k cg) k (sts (ptoks (xs.take k))) ∧ Below w.heap.size w wr

set_option maxRecDepth 20000 in
set_option maxHeartbeats 4000000 in
theorem PassText_any (A : Option Addr) (c : Nat) (xs : List (Int × Int)) (w : World) (ra : Rd w w.heap.size 2 A xs.length (prs xs)) (hl : xs.length ≤ 1048576) (hc : ∀ p ∈ xs, inC p.1)
    (htab : Lib.TabIs Tryz.prog w "internal/strconv.uint64pow10" .u64 Lib.pow10Tab) :
    Calls Tryz.prog 14 #[.slice A xs.length c] w fun e w' => e = .returned (.string (bs_ (passT xs))) ∧ Below w.heap.size w w' := by
  obtain ⟨j0, hj, hj0, hj1, hj2⟩ := info_parts info_strK
  go_enter Tryz.func14, Tryz.ntmps14
  go_wp2
  go_loopw [3, 9] (fun s i wr => PtR xs w wr s i) (fun _ i _ => xs.length - (intOf i).toNat)
  case atStart => exact ⟨0, w.heap.size, 0, Nat.zero_le _, rfl, rfl, fun _ _ h => absurd h (by omega), own_lit w #[] 0 rfl (Nat.le_refl _) (by omega) rfl, ba (b0 w) (.cells #[] 9)⟩
  case round =>
    obtain ⟨wo, rfl⟩ : ∃ wo : World, wo = wr := ⟨_, rfl⟩
    obtain ⟨k, g, cg, hk, rfl, rfl, hno, hown, hbw⟩ := hrel
    have HNO := Lib.hid hno
    clear hno
    by_cases hlt : k < xs.length
    · obtain ⟨b1, o1, rfl, hbb, hcc⟩ := ra.at_ hlt
      have d1 := cell_later hbw (hcc _ _ (prs_fst xs k hlt))
      have d2 := cell_later hbw (hcc _ _ (prs_snd xs k hlt))
      rw [← Nat.add_assoc] at d2
      have i1 : (k : Int) < (xs.length : Int) := by omega
      have HI := Lib.hid (hc _ (List.getElem_mem hlt))
      obtain ⟨T, hT⟩ : ∃ T, T = Lib.itoa xs[k].1 := ⟨_, rfl⟩
      have HTL := Lib.hid (show T.length ≤ 21 from hT ▸ itoa_short HI.out.1 HI.out.2)
      obtain ⟨m, hm⟩ : ∃ m, m = xs[k].2 := ⟨_, rfl⟩
      obtain ⟨z, hz⟩ : ∃ z, z = xs[k].1 := ⟨_, rfl⟩
      have HDC := Lib.hid (fun (W : World) x => Decimal_any xs[k].1 W HI.out.1 HI.out.2 x)
      have HK := Lib.hid (show ptok xs[k] = T ++ [if m = 1 then 100 else 122] by rw [hT, hm]; rfl)
      have HTB := Lib.hid (tab_later htab hbw)
      rw [← hT, ← hz] at HDC
      rw [← hz] at d1
      rw [← hm] at d2
      clear hbb hcc hT hz
      have hbase := hbw.size
      cases hmb : modeB m with
      | true =>
        have HP := Lib.hid (show ∀ j (hj : j < xs.length), j < k + 1 → modeB xs[j].2 = true from fun j hj h => by
          by_cases e : j = k
          · subst e; rw [← hm]; exact hmb
          · exact HNO.out j hj (by omega))
        clear hm
        have HMB := Lib.hid hmb
        go_wp2_with fail
        refine (isMode_any m _).mono ?_; rintro e w1 ⟨rfl, rfl⟩
        rw [hmb]
        clear hmb
        obtain ⟨W, hW⟩ : ∃ W, W = wo.alloc (.cells #[.int .i64 z, .int .i64 m] 76) := ⟨_, rfl⟩
        have k0 : W.cell? ⟨wo.heap.size, 0, none⟩ = some (.int .i64 z) := by rw [hW]; exact cell_new rfl rfl
        have k1 : W.cell? ⟨wo.heap.size, 1, none⟩ = some (.int .i64 m) := by rw [hW]; exact cell_new rfl rfl
        have HWO := Lib.hid (show Below wo.heap.size wo W by rw [hW]; exact ba (b0 wo) _)
        have HTW := Lib.hid (show Lib.TabIs Tryz.prog W "internal/strconv.uint64pow10" .u64 Lib.pow10Tab from tab_later HTB.out HWO.out)
        have HOW := Lib.hid (own_bs hown HWO.out)
        have hszW : wo.heap.size < W.heap.size := World.block_lt_of_cell? _ _ k0
        rcases modeB_true HMB.out with hm1 | hm1
        · subst hm1
          have HK2 := Lib.hid (show ptok xs[k] = T ++ [100] by rw [HK.out]; simp)
          clear HK
          have z0 : IntKind.i64.wrap 0 = 0 := by rw [IntKind.wrap_i64]; rfl
          have z1 : (⟨#[100, 122]⟩ : ByteArray).extract 0 1 = ⟨#[100]⟩ := by rfl
          have z2 : ¬ 9223372036854775807 < (bs_ T).size + 1 := by rw [bs_size]; have := HTL.out; omega
          go_wp2_with fail
          rw [← hW]
          clear hW d1 d2 hown
          go_region_law (first
            | (refine step_ap rfl (.tmp 17) (.tmp 28) 42 rfl w.heap.size 9 j0 _ 1 16 Tryz.underlying42 hj hj0 hj1 hj2 rfl (by omega) (some ⟨g, 0, none⟩) k cg (sts (ptoks (xs.take k))) _ (by simp [Act.eval]) (own7.alloc _) 1 _ w7.heap.size (by first | exact heap_alloc_new w7 _ | exact heap_alloc_new w7.drew _) (by simp [Act.eval]) rfl (by intro v hv; simp at hv; subst hv; rfl) (by omega) (by omega) (by omega) (by have := B7.size; simp; omega) ?_; intro gg cap w3 hown3 hb3 hg3 hlt3)
            | (go_simp; go_at_call 53; refine (HDC.out _ ?_).mono ?_; (exact HTW.out); rintro e w7 ⟨rfl, hb7⟩; have B7 : Below W.heap.size W w7 := (by first | exact bs (b0 W) hb7 | exact bs (b0 W).drew hb7); have own7 := own_bs HOW.out B7; have k70 := cell_later B7 k0; have k71 := cell_later B7 k1))
          all_goals
            have B8 : Below w.heap.size w w7 := bs (bs hbw HWO.out) B7
            have HB := Lib.hid (show Below w.heap.size w w3 by first | exact (ba B8 _).trans hb3 | exact (ba B8.drew _).trans hb3)
            have HO := Lib.hid (show w3.ownsRow w.heap.size 9 1 (.slice (some ⟨gg, 0, none⟩) (k + 1) cap) (k + 1) (sts (ptoks (xs.take (k + 1)))) by rw [ptoks_snoc xs k hlt, sts_snoc, HK2.out, ← cat_bs]; exact hown3)
            clear B8 B7 hb7 own7 k70 k71 k0 k1 hown3 hb3 hg3 hlt3 hbw hszW z2
            go_wp2
            go_roundw
            case rel =>
              have P : PtR xs w w3 (.slice (some ⟨gg, 0, none⟩) (k + 1) cap) (.int .i64 ((k : Int) + 1)) := ⟨k + 1, gg, cap, by omega, by go_num, rfl, HP.out, HO.out, HB.out⟩
              first | exact P | exact ⟨_, P, rfl⟩ | exact ⟨_, _, P, rfl, rfl⟩ | exact ⟨_, _, _, P, rfl, rfl, rfl⟩ | exact ⟨_, _, _, _, P, rfl, rfl, rfl, rfl⟩ | exact ⟨_, _, _, _, _, P, rfl, rfl, rfl, rfl, rfl⟩ | exact ⟨_, _, _, _, _, _, P, rfl, rfl, rfl, rfl, rfl, rfl⟩ | exact ⟨_, _, _, _, _, _, _, P, rfl, rfl, rfl, rfl, rfl, rfl, rfl⟩ | exact ⟨_, _, _, _, _, _, _, _, P, rfl, rfl, rfl, rfl, rfl, rfl, rfl, rfl⟩
            case measure => simp [intOf]; omega
        · subst hm1
          have HK2 := Lib.hid (show ptok xs[k] = T ++ [122] by rw [HK.out]; simp)
          clear HK
          have z0 : IntKind.i64.wrap 1 = 1 := by rw [IntKind.wrap_i64]; rfl
          have z1 : (⟨#[100, 122]⟩ : ByteArray).extract 1 2 = ⟨#[122]⟩ := by rfl
          have z2 : ¬ 9223372036854775807 < (bs_ T).size + 1 := by rw [bs_size]; have := HTL.out; omega
          go_wp2_with fail
          rw [← hW]
          clear hW d1 d2 hown
          go_region_law (first
            | (refine step_ap rfl (.tmp 17) (.tmp 28) 42 rfl w.heap.size 9 j0 _ 1 16 Tryz.underlying42 hj hj0 hj1 hj2 rfl (by omega) (some ⟨g, 0, none⟩) k cg (sts (ptoks (xs.take k))) _ (by simp [Act.eval]) (own7.alloc _) 1 _ w7.heap.size (by first | exact heap_alloc_new w7 _ | exact heap_alloc_new w7.drew _) (by simp [Act.eval]) rfl (by intro v hv; simp at hv; subst hv; rfl) (by omega) (by omega) (by omega) (by have := B7.size; simp; omega) ?_; intro gg cap w3 hown3 hb3 hg3 hlt3)
            | (go_simp; go_at_call 53; refine (HDC.out _ ?_).mono ?_; (exact HTW.out); rintro e w7 ⟨rfl, hb7⟩; have B7 : Below W.heap.size W w7 := (by first | exact bs (b0 W) hb7 | exact bs (b0 W).drew hb7); have own7 := own_bs HOW.out B7; have k70 := cell_later B7 k0; have k71 := cell_later B7 k1))
          all_goals
            have B8 : Below w.heap.size w w7 := bs (bs hbw HWO.out) B7
            have HB := Lib.hid (show Below w.heap.size w w3 by first | exact (ba B8 _).trans hb3 | exact (ba B8.drew _).trans hb3)
            have HO := Lib.hid (show w3.ownsRow w.heap.size 9 1 (.slice (some ⟨gg, 0, none⟩) (k + 1) cap) (k + 1) (sts (ptoks (xs.take (k + 1)))) by rw [ptoks_snoc xs k hlt, sts_snoc, HK2.out, ← cat_bs]; exact hown3)
            clear B8 B7 hb7 own7 k70 k71 k0 k1 hown3 hb3 hg3 hlt3 hbw hszW z2
            go_wp2
            go_roundw
            case rel =>
              have P : PtR xs w w3 (.slice (some ⟨gg, 0, none⟩) (k + 1) cap) (.int .i64 ((k : Int) + 1)) := ⟨k + 1, gg, cap, by omega, by go_num, rfl, HP.out, HO.out, HB.out⟩
              first | exact P | exact ⟨_, P, rfl⟩ | exact ⟨_, _, P, rfl, rfl⟩ | exact ⟨_, _, _, P, rfl, rfl, rfl⟩ | exact ⟨_, _, _, _, P, rfl, rfl, rfl, rfl⟩ | exact ⟨_, _, _, _, _, P, rfl, rfl, rfl, rfl, rfl⟩ | exact ⟨_, _, _, _, _, _, P, rfl, rfl, rfl, rfl, rfl, rfl⟩ | exact ⟨_, _, _, _, _, _, _, P, rfl, rfl, rfl, rfl, rfl, rfl, rfl⟩ | exact ⟨_, _, _, _, _, _, _, _, P, rfl, rfl, rfl, rfl, rfl, rfl, rfl, rfl⟩
            case measure => simp [intOf]; omega
      | false =>
        have HE := Lib.hid (show passT xs = [] from passT_no (modes_bad hlt (by rw [← hm]; exact hmb)))
        clear hm
        go_wp2_with fail
        refine (isMode_any m _).mono ?_; rintro e w1 ⟨rfl, rfl⟩
        rw [hmb]
        clear hmb
        go_wp2
        go_ret
        exact ⟨ret_t (by rw [HE.out]; rfl), ba hbw _⟩
    · obtain rfl : k = xs.length := by omega
      rw [List.take_length] at hown
      have HE := Lib.hid (show ptJ xs = passT xs from (passT_yes (modes_all fun j hj => HNO.out j hj hj)).symm)
      have HJ := Lib.hid (Join_any g cg (ptoks xs) wo w.heap.size (by rw [ptoks_length]; exact hown) (by rw [ptoks_length]; omega) (by have := ptJ_short xs hc xs.length (Nat.le_refl _); rw [List.take_length] at this; unfold ptJ at this; omega))
      rw [ptoks_length] at HJ
      clear hc HNO hown
      go_wp2_with fail
      refine (HJ.out).mono ?_; rintro e w1 ⟨rfl, hb1⟩
      have HB := Lib.hid (bs hbw hb1)
      clear hb1 hbw
      go_wp2
      go_ret
      exact ⟨ret_t (by rw [← HE.out]; rfl), HB.out⟩
end Go.Proofs.YtmfoaggohlfflaaGreatDoor
