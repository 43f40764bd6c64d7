/- spec.l01Split at a blank: the words of a text. -/
import Derived.Test.YtkmejkeanmjfbaaDoorRNum
namespace Go.Proofs.YtkmejkeanmjfbaaDoor
open Go.RowKit

def sts (L : List (List UInt8)) : List Value := L.map fun s => .string (bs_ s)
theorem sts_snoc (L : List (List UInt8)) (s : List UInt8) : sts (L ++ [s]) = sts L ++ [.string (bs_ s)] := by simp [sts]
theorem sts_length (L : List (List UInt8)) : (sts L).length = L.length := by simp [sts]
theorem sts_get (L : List (List UInt8)) (k : Nat) (h : k < L.length) : (sts L)[k]? = some (.string (bs_ L[k])) := by simp [sts, h]
theorem sts_one (L : List (List UInt8)) : ∀ u ∈ sts L, u.oneCell' = true := by
  intro v hv
  simp only [sts, List.mem_map] at hv
  obtain ⟨b, _, rfl⟩ := hv
  rfl
theorem info_strS : (Tryd.prog.info? 9).map (fun i => (i.zero, i.size, i.bytes)) = some (some (.string ⟨#[]⟩), 1, 16) := by kernel_rfl
theorem ext_bs {s : ByteArray} {i j : Nat} {x : List UInt8} (h : x = ((byt s).take j).drop i) : s.extract i j = bs_ x := by
  rw [h, ← byt_ext, bs_byt]
/-- Behind k bytes. -/
def SpR (s : ByteArray) (w wr : World) (o f q : Value) : Prop := ∃ (k j g cg : Nat) (d : List (List UInt8)) (x : List UInt8), k ≤ s.size ∧ j ≤ k ∧ d.length ≤ k ∧ q = .int .i64 k ∧ f = .int .i64 j ∧ o = .slice (some ⟨g, 0, none⟩) d.length cg ∧
  splitW 32 ((byt s).take k) = d ++ [x] ∧ x = ((byt s).take k).drop j ∧ wr.ownsRow w.heap.size 9 1 (.slice (some ⟨g, 0, none⟩) d.length cg) d.length (sts d) ∧ Below w.heap.size w wr

set_option maxRecDepth 20000 in
set_option maxHeartbeats 4000000 in
theorem l01Split_any (s : ByteArray) (w : World) (hl : s.size ≤ 1048576) :
    Calls Tryd.prog 6 #[.string s, .int .u8 32] w fun e w' => ∃ g c, e = .returned (.slice (some ⟨g, 0, none⟩) (splitW 32 (byt s)).length c) ∧
      w'.ownsRow w.heap.size 9 1 (.slice (some ⟨g, 0, none⟩) (splitW 32 (byt s)).length c) (splitW 32 (byt s)).length (sts (splitW 32 (byt s))) ∧ Below w.heap.size w w' := by
  obtain ⟨j0, hj, hj0, hj1, hj2⟩ := info_parts info_strS
  go_enter Tryd.func6, Tryd.ntmps6
  go_wp2
  go_loopw [5, 6, 7] (fun o f q wr => SpR s w wr o f q) (fun _ _ q _ => s.size - (intOf q).toNat)
  case atStart => exact ⟨0, 0, w.heap.size, 0, [], [], Nat.zero_le _, Nat.le_refl _, Nat.le_refl _, rfl, rfl, rfl, rfl, rfl, own_lit w #[] 0 rfl (Nat.le_refl _) (by omega) rfl, ba (b0 w) (.cells #[] 9)⟩
  case round =>
    obtain ⟨wo, rfl⟩ : ∃ wo : World, wo = wr := ⟨_, rfl⟩
    obtain ⟨k, j, g, cg, d, x, hk, hjk, hdk, rfl, rfl, rfl, hsp, hx, hown, hbw⟩ := hrel
    have hbase := hbw.size
    have HBW := Lib.hid hbw
    have HSP := Lib.hid hsp
    have HX := Lib.hid hx
    clear hsp hx hbw
    by_cases hlt : k < s.size
    · have hkb : k < (byt s).length := by rw [byt_size]; exact hlt
      have HT := Lib.hid (show (byt s).take (k + 1) = (byt s).take k ++ [s[k]] by rw [List.take_succ_eq_append_getElem hkb]; rfl)
      have HSS := Lib.hid (splitW_snoc (b := s[k]) HSP.out)
      have HTL := Lib.hid (show ((byt s).take k).length = k by rw [List.length_take, byt_size]; omega)
      by_cases h32 : ((s[k].toNat : Int) = 32)
      · have e32 : ((s[k].toNat : Int) == 32) = true := beq_t h32
        have HC := Lib.hid (show s[k] = 32 from UInt8.toNat_inj.1 (by rw [show (32 : UInt8).toNat = 32 from rfl]; omega))
        have HE := Lib.hid (ext_bs HX.out)
        clear h32
        go_wp2_with (at_builtin; refine wpList_ap rfl (.tmp 20) (.tmp 25) 25 rfl w.heap.size 9 j0 _ 1 16 Tryd.underlying25 hj hj0 hj1 hj2 rfl (by omega) _ d.length _ (sts d) rfl wo hown 1 #[.string (s.extract j k)] wo.heap.size rfl rfl rfl (by intro v hv; simp at hv; subst hv; rfl) (by omega) (by omega) (by omega) hbase ?_; intro gg cap w6 hown6 hb6 hg6 _ _)
        refine ⟨⟨k + 1, k + 1, gg, cap, d ++ [x], [], by omega, Nat.le_refl _, by rw [List.length_append]; simp; omega, by go_num, by go_num, by rw [List.length_append]; rfl, by rw [HT.out, HSS.out, if_pos HC.out], ?_, ?_, HBW.out.trans hb6⟩, by simp [intOf]; omega⟩
        · rw [HT.out, List.drop_of_length_le (by rw [List.length_append, HTL.out]; simp)]
        · rw [sts_snoc, List.length_append, ← HE.out]
          exact hown6
      · have e32 : ((s[k].toNat : Int) == 32) = false := beq_f h32
        have HC := Lib.hid (show ¬ s[k] = 32 from fun e => h32 (by rw [e]; rfl))
        clear h32
        go_wp2
        go_roundw
        case rel =>
          have P : SpR s w wo (.slice (some ⟨g, 0, none⟩) d.length cg) (.int .i64 j) (.int .i64 ((k : Int) + 1)) := ⟨k + 1, j, g, cg, d, x ++ [s[k]], by omega, by omega, by omega, by go_num, rfl, rfl, by rw [HT.out, HSS.out, if_neg HC.out], by rw [HT.out, List.drop_append_of_le_length (by rw [HTL.out]; exact hjk), ← HX.out], hown, HBW.out⟩
          first | exact P | exact ⟨_, P, rfl⟩ | exact ⟨_, _, P, rfl, rfl⟩ | exact ⟨_, _, _, P, rfl, rfl, rfl⟩ | exact ⟨_, _, _, _, P, rfl, rfl, rfl, rfl⟩ | exact ⟨_, _, _, _, _, P, rfl, rfl, rfl, rfl, rfl⟩ | exact ⟨_, _, _, _, _, _, P, rfl, rfl, rfl, rfl, rfl, rfl⟩ | exact ⟨_, _, _, _, _, _, _, P, rfl, rfl, rfl, rfl, rfl, rfl, rfl⟩ | exact ⟨_, _, _, _, _, _, _, _, P, rfl, rfl, rfl, rfl, rfl, rfl, rfl, rfl⟩
        case measure => simp [intOf]; omega
    · obtain rfl : k = s.size := by omega
      have HTA := Lib.hid (show (byt s).take s.size = byt s from List.take_of_length_le (by rw [byt_size]; omega))
      have HE := Lib.hid (ext_bs HX.out)
      go_wp2_with (at_builtin; refine wpList_ap rfl (.tmp 29) (.tmp 33) 25 rfl w.heap.size 9 j0 _ 1 16 Tryd.underlying25 hj hj0 hj1 hj2 rfl (by omega) _ d.length _ (sts d) rfl wo hown 1 #[.string (s.extract j s.size)] wo.heap.size rfl rfl rfl (by intro v hv; simp at hv; subst hv; rfl) (by omega) (by omega) (by omega) hbase ?_; intro gg cap w6 hown6 hb6 hg6 _ _)
      have HO := Lib.hid hown6
      have HB := Lib.hid (HBW.out.trans hb6)
      clear hown6 hb6 hg6 hown
      have HW := Lib.hid (show splitW 32 (byt s) = d ++ [x] by rw [← HSP.out, HTA.out])
      go_ret
      refine ⟨gg, cap, ?_, ?_, HB.out⟩
      · rw [HW.out, List.length_append]; rfl
      · rw [HW.out, List.length_append, sts_snoc, ← HE.out]
        exact HO.out
end Go.Proofs.YtkmejkeanmjfbaaDoor
