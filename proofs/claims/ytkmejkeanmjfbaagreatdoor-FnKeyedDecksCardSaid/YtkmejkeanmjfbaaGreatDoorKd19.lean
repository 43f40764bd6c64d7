/- Numbers and words of texts: the plain laws of decimal texts; spec.l01Number, spec.l01Split. spec.l01Split at a blank: the words of a text. -/
import Derived.Test.YtkmejkeanmjfbaaGreatDoorKd18
import Derived.Lib.ParseIntBTie
/-! ### RNum -/
namespace Go.Proofs.YtkmejkeanmjfbaaGreatDoor
open Go.RowKit

/-! ### plain -/
def valD (l : List UInt8) : Nat := l.foldl (fun a c => 10 * a + (c.toNat - 48)) 0
theorem valD_snoc (l : List UInt8) (c : UInt8) : valD (l ++ [c]) = 10 * valD l + (c.toNat - 48) := by simp [valD]
theorem valD_digits (u : Nat) : valD (Lib.decDigits u) = u := by
  induction u using Nat.strongRecOn with
  | _ u ih =>
    rw [Lib.decDigits]
    by_cases h : u < 10
    · rw [dif_pos h]
      have : (48 + u) % 256 = 48 + u := Nat.mod_eq_of_lt (by omega)
      simp [valD, UInt8.toNat_ofNat', this]
    · rw [dif_neg h, valD_snoc, ih (u / 10) (by omega)]
      have : (48 + u % 10) % 256 = 48 + u % 10 := Nat.mod_eq_of_lt (by omega)
      simp only [UInt8.toNat_ofNat', this]
      omega
def digL (l : List UInt8) : Bool := l.all fun c => digB (c.toNat : Int)
theorem digL_snoc (l : List UInt8) (c : UInt8) : digL (l ++ [c]) = (digL l && digB (c.toNat : Int)) := by simp [digL]
theorem digL_bad {l : List UInt8} {k : Nat} (h : k < l.length) (hb : digB (l[k].toNat : Int) = false) : digL l = false := List.all_eq_false.2 ⟨l[k], List.getElem_mem h, by simp [hb]⟩
theorem digB_range {n : Int} (h : digB n = true) : 48 ≤ n ∧ n ≤ 57 := by
  unfold digB at h
  simpa using h
theorem valD_lt (l : List UInt8) : ∀ k, k ≤ l.length → digL (l.take k) = true → valD (l.take k) < 10 ^ k
  | 0, _, _ => by simp [valD]
  | k + 1, hk, h => by
    rw [List.take_succ_eq_append_getElem (by omega)] at h ⊢
    rw [digL_snoc, Bool.and_eq_true] at h
    have h2 := digB_range h.2
    have := valD_lt l k (by omega) h.1
    rw [valD_snoc, Nat.pow_succ]
    omega
theorem t20_facts : ∀ a : Fin 21, digL (t20 a.val) = true ∧ (t20 a.val).head? ≠ some 45 ∧ 1 ≤ (t20 a.val).length ∧ (t20 a.val).length ≤ 2 ∧ valD (t20 a.val) = a.val := by decide +kernel
theorem itoa_is_t20 {v : Int} {m : Nat} (hm : m ≤ 20) (h : Lib.itoa v = t20 m) : v = m := by
  have hf := t20_facts ⟨m, by omega⟩
  simp only at hf
  unfold Lib.itoa at h
  by_cases hv : v < 0
  · rw [if_pos hv] at h
    rw [← h] at hf
    exact absurd rfl hf.2.1
  · rw [if_neg hv] at h
    have := valD_digits v.toNat
    rw [h, hf.2.2.2.2] at this
    omega
/-- What a number's text says of the numbers from 1 to 20. -/
theorem numD_itoa {t : List UInt8} {v : Int} (h : t = Lib.itoa v) : numD t = if 1 ≤ v ∧ v ≤ 20 then some v.toNat else none := by
  by_cases hv : 1 ≤ v ∧ v ≤ 20
  · rw [if_pos hv, numD_iff]
    refine ⟨by omega, by omega, ?_⟩
    rw [h, ← itoa_t20 (n := v.toNat) (by omega), show ((v.toNat : Nat) : Int) = v by omega]
  · rw [if_neg hv]
    cases hn : numD t with
    | none => rfl
    | some m =>
      obtain ⟨h1, h2, h3⟩ := numD_iff.1 hn
      have := itoa_is_t20 h2 (h ▸ h3)
      omega
/-- A text that no number from 0 to 20 has. -/
def NoT (t : List UInt8) : Prop := ∀ m, m ≤ 20 → t ≠ t20 m
theorem numD_no {t : List UInt8} (h : NoT t) : numD t = none := by
  cases hn : numD t with
  | none => rfl
  | some m =>
    obtain ⟨h1, h2, h3⟩ := numD_iff.1 hn
    exact absurd h3 (h m h2)
theorem t20_parse : ∀ a : Fin 21, Lib.parseIntB 64 (t20 a.val) = .ok (a.val : Int) := by decide +kernel
theorem noT_len {t : List UInt8} (h : t.length < 1 ∨ 18 < t.length) : NoT t := fun m hm e => by
  have hf := t20_facts ⟨m, by omega⟩
  simp only at hf
  rw [← e] at hf
  omega
theorem noT_minus {t : List UInt8} (h : t.head? = some 45) : NoT t := fun m hm e => by
  have hf := t20_facts ⟨m, by omega⟩
  simp only at hf
  rw [← e] at hf
  exact hf.2.1 h
theorem noT_digit {t : List UInt8} (h : digL t = false) : NoT t := fun m hm e => by
  have hf := t20_facts ⟨m, by omega⟩
  simp only at hf
  rw [← e, h] at hf
  exact absurd hf.1 (by simp)
theorem noT_val {t : List UInt8} (h : Lib.itoa (valD t : Int) ≠ t) : NoT t := fun m hm e => by
  have hf := t20_facts ⟨m, by omega⟩
  simp only at hf
  rw [← e] at hf
  apply h
  rw [hf.2.2.2.2, itoa_t20 (by omega), e]
theorem noT_parse {t : List UInt8} (h : ∀ v, Lib.parseIntB 64 t = .ok v → Lib.itoa v ≠ t) : NoT t := fun m hm e => by
  have hf := t20_parse ⟨m, by omega⟩
  simp only at hf
  rw [← e] at hf
  exact h _ hf (by rw [itoa_t20 (by omega), e])
theorem noT_parse_err {t : List UInt8} (h : ∀ v, Lib.parseIntB 64 t ≠ .ok v) : NoT t := noT_parse fun v e => absurd e (h v)
/-- What a reading of a number says. -/
def NumP (t : List UInt8) (e : Ending) : Prop := (∃ v : Int, e = .returned (.tuple #[.int .i64 v, .bool true]) ∧ t = Lib.itoa v ∧ -9223372036854775808 ≤ v ∧ v ≤ 9223372036854775807) ∨ (e = .returned (.tuple #[.int .i64 0, .bool false]) ∧ NoT t)
theorem byt_ext (s : ByteArray) (i j : Nat) : byt (s.extract i j) = ((byt s).take j).drop i := by
  simp [byt, ByteArray.data_extract, Array.toList_extract, List.extract_eq_take_drop, List.drop_take]
theorem bs_byt (s : ByteArray) : bs_ (byt s) = s := ByteArray.ext (by simp [bs_, byt])
end Go.Proofs.YtkmejkeanmjfbaaGreatDoor

/-! ### RSplit -/
namespace Go.Proofs.YtkmejkeanmjfbaaGreatDoor
open Go.RowKit

def sts (L : List (List UInt8)) : List Value := L.map fun s => .string (bs_ s)
theorem sts_snoc (L : List (List UInt8)) (s : List UInt8) : sts (L ++ [s]) = sts L ++ [.string (bs_ s)] := by simp [sts]
theorem sts_length (L : List (List UInt8)) : (sts L).length = L.length := by simp [sts]
theorem sts_get (L : List (List UInt8)) (k : Nat) (h : k < L.length) : (sts L)[k]? = some (.string (bs_ L[k])) := by simp [sts, h]
theorem sts_one (L : List (List UInt8)) : ∀ u ∈ sts L, u.oneCell' = true := by
  intro v hv
  simp only [sts, List.mem_map] at hv
  obtain ⟨b, _, rfl⟩ := hv
  rfl
theorem info_strS : (Tryz.prog.info? 9).map (fun i => (i.zero, i.size, i.bytes)) = some (some (.string ⟨#[]⟩), 1, 16) := by kernel_rfl
theorem ext_bs {s : ByteArray} {i j : Nat} {x : List UInt8} (h : x = ((byt s).take j).drop i) : s.extract i j = bs_ x := by
  rw [h, ← byt_ext, bs_byt]
/-- Behind k bytes. -/
def SpR (s : ByteArray) (w wr : World) (o f q : Value) : Prop := ∃ (k j g cg : Nat) (d : List (List UInt8)) (x : List UInt8), k ≤ s.size ∧ j ≤ k ∧ d.length ≤ k ∧ q = .int .i64 k ∧ f = .int .i64 j ∧ o = .slice (some ⟨g, 0, none⟩) d.length cg ∧
  splitW 32 ((byt s).take k) = d ++ [x] ∧ x = ((byt s).take k).drop j ∧ wr.ownsRow w.heap.size 9 1 (.slice (some ⟨g, 0, none⟩) d.length cg) d.length (sts d) ∧ Below w.heap.size w wr

set_option maxRecDepth 20000 in
set_option maxHeartbeats 4000000 in
theorem l01Split_any (s : ByteArray) (w : World) (hl : s.size ≤ 1048576) :
    Calls Tryz.prog 62 #[.string s, .int .u8 32] w fun e w' => ∃ g c, e = .returned (.slice (some ⟨g, 0, none⟩) (splitW 32 (byt s)).length c) ∧
      w'.ownsRow w.heap.size 9 1 (.slice (some ⟨g, 0, none⟩) (splitW 32 (byt s)).length c) (splitW 32 (byt s)).length (sts (splitW 32 (byt s))) ∧ Below w.heap.size w w' := by
  obtain ⟨j0, hj, hj0, hj1, hj2⟩ := info_parts info_strS
  go_enter Tryz.func62, Tryz.ntmps62
  go_wp2
  go_loopw [5, 6, 7] (fun o f q wr => SpR s w wr o f q) (fun _ _ q _ => s.size - (intOf q).toNat)
  case atStart => exact ⟨0, 0, w.heap.size, 0, [], [], Nat.zero_le _, Nat.le_refl _, Nat.le_refl _, rfl, rfl, rfl, rfl, rfl, own_lit w #[] 0 rfl (Nat.le_refl _) (by omega) rfl, ba (b0 w) (.cells #[] 9)⟩
  case round =>
    obtain ⟨wo, rfl⟩ : ∃ wo : World, wo = wr := ⟨_, rfl⟩
    obtain ⟨k, j, g, cg, d, x, hk, hjk, hdk, rfl, rfl, rfl, hsp, hx, hown, hbw⟩ := hrel
    have hbase := hbw.size
    have HBW := Lib.hid hbw
    have HSP := Lib.hid hsp
    have HX := Lib.hid hx
    clear hsp hx hbw
    by_cases hlt : k < s.size
    · have hkb : k < (byt s).length := by rw [byt_size]; exact hlt
      have HT := Lib.hid (show (byt s).take (k + 1) = (byt s).take k ++ [s[k]] by rw [List.take_succ_eq_append_getElem hkb]; rfl)
      have HSS := Lib.hid (splitW_snoc (b := s[k]) HSP.out)
      have HTL := Lib.hid (show ((byt s).take k).length = k by rw [List.length_take, byt_size]; omega)
      by_cases h32 : ((s[k].toNat : Int) = 32)
      · have e32 : ((s[k].toNat : Int) == 32) = true := beq_t h32
        have HC := Lib.hid (show s[k] = 32 from UInt8.toNat_inj.1 (by rw [show (32 : UInt8).toNat = 32 from rfl]; omega))
        have HE := Lib.hid (ext_bs HX.out)
        clear h32
        go_wp2_with (at_builtin; refine wpList_ap rfl (.tmp 20) (.tmp 25) 27 rfl w.heap.size 9 j0 _ 1 16 Tryz.underlying27 hj hj0 hj1 hj2 rfl (by omega) _ d.length _ (sts d) rfl wo hown 1 #[.string (s.extract j k)] wo.heap.size rfl rfl rfl (by intro v hv; simp at hv; subst hv; rfl) (by omega) (by omega) (by omega) hbase ?_; intro gg cap w6 hown6 hb6 hg6 _ _)
        refine ⟨⟨k + 1, k + 1, gg, cap, d ++ [x], [], by omega, Nat.le_refl _, by rw [List.length_append]; simp; omega, by go_num, by go_num, by rw [List.length_append]; rfl, by rw [HT.out, HSS.out, if_pos HC.out], ?_, ?_, HBW.out.trans hb6⟩, by simp [intOf]; omega⟩
        · rw [HT.out, List.drop_of_length_le (by rw [List.length_append, HTL.out]; simp)]
        · rw [sts_snoc, List.length_append, ← HE.out]
          exact hown6
      · have e32 : ((s[k].toNat : Int) == 32) = false := beq_f h32
        have HC := Lib.hid (show ¬ s[k] = 32 from fun e => h32 (by rw [e]; rfl))
        clear h32
        go_wp2
        go_roundw
        case rel =>
          have P : SpR s w wo (.slice (some ⟨g, 0, none⟩) d.length cg) (.int .i64 j) (.int .i64 ((k : Int) + 1)) := ⟨k + 1, j, g, cg, d, x ++ [s[k]], by omega, by omega, by omega, by go_num, rfl, rfl, by rw [HT.out, HSS.out, if_neg HC.out], by rw [HT.out, List.drop_append_of_le_length (by rw [HTL.out]; exact hjk), ← HX.out], hown, HBW.out⟩
          first | exact P | exact ⟨_, P, rfl⟩ | exact ⟨_, _, P, rfl, rfl⟩ | exact ⟨_, _, _, P, rfl, rfl, rfl⟩ | exact ⟨_, _, _, _, P, rfl, rfl, rfl, rfl⟩ | exact ⟨_, _, _, _, _, P, rfl, rfl, rfl, rfl, rfl⟩ | exact ⟨_, _, _, _, _, _, P, rfl, rfl, rfl, rfl, rfl, rfl⟩ | exact ⟨_, _, _, _, _, _, _, P, rfl, rfl, rfl, rfl, rfl, rfl, rfl⟩ | exact ⟨_, _, _, _, _, _, _, _, P, rfl, rfl, rfl, rfl, rfl, rfl, rfl, rfl⟩
        case measure => simp [intOf]; omega
    · obtain rfl : k = s.size := by omega
      have HTA := Lib.hid (show (byt s).take s.size = byt s from List.take_of_length_le (by rw [byt_size]; omega))
      have HE := Lib.hid (ext_bs HX.out)
      go_wp2_with (at_builtin; refine wpList_ap rfl (.tmp 29) (.tmp 33) 27 rfl w.heap.size 9 j0 _ 1 16 Tryz.underlying27 hj hj0 hj1 hj2 rfl (by omega) _ d.length _ (sts d) rfl wo hown 1 #[.string (s.extract j s.size)] wo.heap.size rfl rfl rfl (by intro v hv; simp at hv; subst hv; rfl) (by omega) (by omega) (by omega) hbase ?_; intro gg cap w6 hown6 hb6 hg6 _ _)
      have HO := Lib.hid hown6
      have HB := Lib.hid (HBW.out.trans hb6)
      clear hown6 hb6 hg6 hown
      have HW := Lib.hid (show splitW 32 (byt s) = d ++ [x] by rw [← HSP.out, HTA.out])
      go_ret
      refine ⟨gg, cap, ?_, ?_, HB.out⟩
      · rw [HW.out, List.length_append]; rfl
      · rw [HW.out, List.length_append, sts_snoc, ← HE.out]
        exact HO.out
end Go.Proofs.YtkmejkeanmjfbaaGreatDoor
