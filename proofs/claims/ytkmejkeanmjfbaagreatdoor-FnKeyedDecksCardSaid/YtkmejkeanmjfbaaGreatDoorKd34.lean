/- The draws of program cards and keys. The draws of keys, and of what the laws on the key punch take. The draws of PunchByProgram, KeysFor, VerifyCard, StrokesSaved. The draws of KeysFor and VerifyCard. -/
import Derived.Test.YtkmejkeanmjfbaaGreatDoorKd29
import Derived.Test.YtkmejkeanmjfbaaGreatDoorKd24
import Derived.Lib.AppendStr
import Derived.Test.YtkmejkeanmjfbaaGreatDoorKd33
/-! ### KyDrawAll -/
/-! ### The draws of program cards and keys. -/
namespace Go.Proofs.YtkmejkeanmjfbaaGreatDoor
open Go.RowKit

theorem l00Min_min (a b : Int) (w : World) : Calls Tryz.prog 70 #[.int .i64 a, .int .i64 b] w fun e w' => e = .returned (.int .i64 (min a b)) ∧ w = w' := by
  by_cases h : a < b
  · have HM := Lib.hid (show min a b = a by omega)
    go_enter Tryz.func70, Tryz.ntmps70
    go_wp2
    go_ret
    exact ⟨ret_int HM.out.symm, rfl⟩
  · have HM := Lib.hid (show min a b = b by omega)
    go_enter Tryz.func70, Tryz.ntmps70
    go_wp2
    go_ret
    exact ⟨ret_int HM.out.symm, rfl⟩

theorem text_any (p K : Nat) (A : Option Addr) (n c : Nat) (ts : List ByteArray) (w : World) (h : SrcK w p K) (hK : K < 900000) (hxl : ts.length = n) (hn : 0 < n) (hn2 : n ≤ 200) (ha : Rd w w.heap.size 1 A n (strv ts)) (hp : ∀ g o, A = some ⟨g, o, none⟩ → g ≠ p) :
    Calls Tryz.prog 61 #[.pointer (some ⟨p, 0, none⟩), .slice A n c] w fun e w' => ∃ z, z ∈ ts ∧ e = .returned (.string z) ∧ SrcK w' p (K + 2) ∧ Chg p (p + 1) w w' := by
  obtain ⟨g, o, rfl, hg, hcell⟩ := ha.at_ hn
  have hgp := hp g o rfl
  have HXL := Lib.hid hxl
  clear hxl hp
  go_enter Tryz.func61, Tryz.ntmps61
  go_wp2_with fail
  refine (pick_any p K (n : Int) _ h (by omega) (by omega)).mono ?_
  rintro e w1 ⟨x, hx, rfl, hs1, hc1⟩
  have hxn : x < n := by omega
  have i1 : (x : Int) < (n : Int) := by omega
  have d1 := hc1.cell (hcell x _ (strv_get ts x (by rw [HXL.out]; exact hxn))) (by omega)
  clear hcell
  go_wp2
  go_ret
  exact ⟨_, List.getElem_mem _, rfl, hs1, hc1⟩

abbrev mmB : ByteArray := { data := #[109, 109, 110, 110, 115, 100] }
/-- Behind k letters. -/
def KdR (p K n : Nat) (w wr : World) (o q : Value) : Prop := ∃ (k g cg : Nat) (s : List UInt8), k ≤ n ∧ q = .int .i64 k ∧ o = .slice (some ⟨g, 0, none⟩) k cg ∧ s.length = k ∧
  wr.ownsRow w.heap.size 5 1 (.slice (some ⟨g, 0, none⟩) k cg) k (byts s) ∧ Chg p (p + 1) w wr ∧ SrcK wr p (K + 2 * k)

set_option maxRecDepth 20000 in
set_option maxHeartbeats 4000000 in
theorem l05Draw_any (p K n : Nat) (w : World) (h : SrcK w p K) (hK : K + 2 * n < 900000) :
    Calls Tryz.prog 59 #[.pointer (some ⟨p, 0, none⟩), .int .i64 (n : Int)] w fun e w' => ∃ t : ByteArray, t.size = n ∧ e = .returned (.string t) ∧ SrcK w' p (K + 2 * n) ∧ Chg p (p + 1) w w' := by
  obtain ⟨j0, hj, hj0, hj1, hj2⟩ := info_parts info_u8K
  have hlt := h.lt
  go_enter Tryz.func59, Tryz.ntmps59
  go_wp2
  go_loopw [5, 6] (fun o q wr => KdR p K n w wr o q) (fun _ q _ => n - (intOf q).toNat)
  case atStart => exact ⟨0, w.heap.size, 0, [], Nat.zero_le _, rfl, rfl, rfl, own_lit w #[] 0 rfl (Nat.le_refl _) (by omega) rfl, (Chg.refl _ _ _).then (ba (b0 w) _) (Nat.le_refl _), h.later (ba (b0 w) _)⟩
  case round =>
    obtain ⟨wo, rfl⟩ : ∃ wo : World, wo = wr := ⟨_, rfl⟩
    obtain ⟨k, g, cg, s, hk, rfl, rfl, hsl, hown, hch, hsr⟩ := hrel
    have HSL := Lib.hid hsl
    have HCH := Lib.hid hch
    clear hsl hch
    by_cases hlt2 : k < n
    · have i1 : (k : Int) < (n : Int) := by omega
      go_wp2_with fail
      refine (pick_any p _ 6 _ hsr (by omega) (by omega)).mono ?_
      rintro e w3 ⟨x, hx, rfl, hs3, hc3⟩
      have hx40 : x < 6 := by omega
      have i2 : (x : Int) < 6 := by omega
      have hown3 := own_chg hown hc3 (by omega)
      have HC3 := Lib.hid (HCH.out.trans hc3)
      have HS3 := Lib.hid hs3
      have hbase := HC3.out.size
      clear hown hc3 hs3 hx hsr
      go_wp2_with (at_builtin; refine wpList_ap rfl (.tmp 13) (.tmp 17) 22 rfl w.heap.size 5 j0 _ 1 1 Tryz.underlying22 hj hj0 hj1 hj2 rfl (by omega) _ k _ (byts s) rfl w3 hown3 1 #[.int .u8 ((mmB[x]'(by exact hx40)).toNat : Int)] w3.heap.size rfl rfl rfl (by intro v hv; simp at hv; subst hv; rfl) (by omega) (by omega) (by omega) hbase ?_; intro gg cap w6 hown6 hb6 hg6 _ _)
      have HO := Lib.hid (show w6.ownsRow w.heap.size 5 1 (.slice (some ⟨gg, 0, none⟩) (k + 1) cap) (k + 1) (byts (s ++ [mmB[x]'(by exact hx40)])) by rw [byts_snoc]; exact hown6)
      have HC := Lib.hid (HC3.out.then hb6 (Nat.le_refl _))
      have HS := Lib.hid ((HS3.out.below hb6 hlt).more (show K + 2 * k + 2 ≤ K + 2 * (k + 1) by omega))
      have HL := Lib.hid (show (s ++ [mmB[x]'(by exact hx40)]).length = k + 1 by rw [List.length_append, HSL.out]; rfl)
      clear hown6 hown3 hb6 hg6 hbase
      go_wp2
      go_roundw
      case rel => exact ⟨k + 1, gg, cap, _, by omega, by go_num, rfl, HL.out, HO.out, HC.out, HS.out⟩
      case measure => simp [intOf]; omega
    · obtain rfl : k = n := by omega
      have hconv := conv_text hown
      clear hown
      go_wp2
      go_ret
      exact ⟨bs_ s, by rw [bs_size, HSL.out], rfl, hsr, HCH.out⟩

/-- What a draw of a program card hands back. -/
def TextP (p K : Nat) (w : World) (e : Ending) (w' : World) : Prop := ∃ t : ByteArray, t.size ≤ 21 ∧ e = .returned (.string t) ∧ SrcK w' p (K + 70) ∧ Chg p (p + 1) w w'
theorem app_size (a b : ByteArray) : (a ++ b).size = a.size + b.size := by simp
set_option maxRecDepth 20000 in
set_option maxHeartbeats 4000000 in
theorem l05Bent_any (p K : Nat) (w : World) (h : SrcK w p K) (hK : K + 100 < 800000) : Calls Tryz.prog 25 #[.pointer (some ⟨p, 0, none⟩)] w (TextP p K w) := by
  have hlt := h.lt
  go_enter Tryz.func25, Tryz.ntmps25
  go_wp2_with fail
  refine (pick_any p K 7 _ h (by omega) (by omega)).mono ?_
  rintro e w1 ⟨x, hx, rfl, hs1, hc1⟩
  have hx6 : x < 7 := by omega
  have zw : IntKind.i64.wrap (1 + (x : Int)) = ((1 + x : Nat) : Int) := by rw [IntKind.wrap_i64]; omega
  clear hx
  go_wp2_with fail
  refine (l05Draw_any p (K + 2) (1 + x) _ hs1 (by omega)).mono ?_
  rintro e w2 ⟨t, ht, rfl, hs2, hc2⟩
  have HT := Lib.hid ht
  have HC2 := Lib.hid (hc1.trans hc2)
  clear ht zw hs1 hc1 hc2
  go_wp2_with fail
  refine (pick_any p _ 16 _ hs2 (by omega) (by omega)).mono ?_
  rintro e w3 ⟨y, hy, rfl, hs3, hc3⟩
  have HC3 := Lib.hid (HC2.out.trans hc3)
  have hp3 := hs3.lt
  clear hs2 hc3 hy
  by_cases y0 : y = 0
  · subst y0
    go_wp2
    go_ret
    exact ⟨⟨#[]⟩, by decide, rfl, hs3.more (by omega), HC3.out⟩
  · have i0 : ((y : Int) == 0) = false := beq_f (by omega)
    by_cases y1 : y = 1
    · have i1 : ((y : Int) == 1) = true := beq_t (by omega)
      clear y0 y1
      go_wp2_with fail
      refine (text_any p _ _ 3 3 [⟨#[120]⟩, ⟨#[77]⟩, ⟨#[32]⟩] _ (hs3.later (ba (b0 _) _)) (by omega) rfl (by omega) (by omega) (Rd.own (own_lit w3 #[.string ⟨#[120]⟩, .string ⟨#[77]⟩, .string ⟨#[32]⟩] 3 rfl (Nat.le_refl _) (by omega) rfl)) (by intro gg oo hgg; injection hgg with hgg; injection hgg with hgg; omega)).mono ?_
      rintro e w4 ⟨z, hz, rfl, hs4, hc4⟩
      have HC4 := Lib.hid ((HC3.out.then (ba (b0 w3) _) HC3.out.size).trans hc4)
      have hz1 : z.size = 1 := by
        simp only [List.mem_cons, List.not_mem_nil, or_false] at hz
        rcases hz with rfl | rfl | rfl <;> rfl
      have HZ := Lib.hid hz1
      have hsz : ¬ 9223372036854775807 < t.size + z.size := by rw [HZ.out, HT.out]; omega
      clear hz hz1 hc4
      go_wp2
      go_ret
      exact ⟨t ++ z, by rw [app_size, HZ.out, HT.out]; omega, rfl, hs4.more (by omega), HC4.out⟩
    · have i1 : ((y : Int) == 1) = false := beq_f (by omega)
      by_cases y2 : y = 2
      · have i2 : ((y : Int) == 2) = true := beq_t (by omega)
        clear y0 y1 y2
        go_wp2_with fail
        refine (pick_any p _ 2 _ hs3 (by omega) (by omega)).mono ?_
        rintro e w4 ⟨u, hu, rfl, hs4, hc4⟩
        have hu6 : u < 2 := by omega
        have zw : IntKind.i64.wrap (20 + (u : Int)) = ((20 + u : Nat) : Int) := by rw [IntKind.wrap_i64]; omega
        clear hu
        go_wp2_with fail
        refine (l05Draw_any p _ (20 + u) _ hs4 (by omega)).mono ?_
        rintro e w5 ⟨v, hv, rfl, hs5, hc5⟩
        have HV := Lib.hid hv
        have HC5 := Lib.hid ((HC3.out.trans hc4).trans hc5)
        clear hv zw hs4 hc4 hc5
        go_wp2
        go_ret
        exact ⟨v, by rw [HV.out]; omega, rfl, hs5.more (by omega), HC5.out⟩
      · have i2 : ((y : Int) == 2) = false := beq_f (by omega)
        clear y0 y1 y2
        go_wp2
        go_ret
        exact ⟨t, by rw [HT.out]; omega, rfl, hs3.more (by omega), HC3.out⟩

/-- What a draw of a card for a program card hands back. -/
def BfP (p K : Nat) (w : World) (e : Ending) (w' : World) : Prop := ∃ B n d xs, e = .returned (.agg #[.slice B n d]) ∧ List.length xs = n ∧ n ≤ 40 ∧ Ob w' w.heap.size w'.heap.size 2 1 (.slice B n d) n (ints xs) ∧ SrcK w' p (K + 260) ∧ Chg p (p + 1) w w'
set_option maxHeartbeats 4000000 in
theorem l05Before_any (p K : Nat) (s : ByteArray) (w : World) (h : SrcK w p K) (hK : K + 300 < 700000) (hs21 : s.size ≤ 21) : Calls Tryz.prog 26 #[.pointer (some ⟨p, 0, none⟩), .string s] w (BfP p K w) := by
  have hlt := h.lt
  obtain ⟨W, hW⟩ : ∃ W, W = w.alloc (.cells #[.slice none 0 0] 26) := ⟨_, rfl⟩
  have T0 : Below w.heap.size w W := by rw [hW]; exact ba (b0 w) _
  have c0 : W.cell? ⟨w.heap.size, 0, none⟩ = some (.slice none 0 0) := by rw [hW]; exact cell_new rfl rfl
  have f0 : W.frozen? ⟨w.heap.size, 0, none⟩ = false := by rw [hW]; exact froz_new rfl
  have z0 : W.heap.size = w.heap.size + 1 := by rw [hW]; simp
  have hs := h.later T0
  have hch := (Chg.refl p (p + 1) w).then T0 (Nat.le_refl _)
  have HW := Lib.hid hW
  clear hW h
  go_enter Tryz.func26, Tryz.ntmps26
  go_wp2_with fail
  rw [← HW.out]
  refine (one_any p K 16 _ hs (by omega) (by omega)).mono ?_
  rintro e w1 (⟨rfl, hs1, hc1⟩ | ⟨rfl, hs1, hc1⟩)
  all_goals
    have c1 := hc1.cell c0 (.inr (by omega))
    have f1 := hc1.froz f0 (by omega) (.inr (by omega))
    have z1 := hc1.size
    have ch1 := hch.trans hc1
    clear hc1 hs hch c0 f0
  · go_wp2_with fail
    refine (l03Bent_any p (K + 2) _ hs1 (by omega)).mono ?_
    rintro e w2 ⟨B, n, d, xs, rfl, hxl, hn40, hob, hs2, hc2⟩
    have c2 := hc2.cell c1 (.inr (by omega))
    have f2 := hc2.froz f1 (by omega) (.inr (by omega))
    have z2 := hc2.size
    have HX := Lib.hid hxl
    clear hxl
    go_wp2
    refine bodyPost_ret (v := .agg #[.slice B n d]) (by simp [results, Tryz.results26, go_sem, *]) rfl ⟨B, n, d, xs, rfl, HX.out, hn40, ?_, ?_, ?_⟩
    · exact (hob.below _ _ _ (by omega)).mono (by omega) (by simp)
    · exact (hs2.below (bset (Below.refl w.heap.size w2) w.heap.size 0 (.slice B n d) (Nat.le_refl _)) (by omega)).more (by omega)
    · exact (ch1.trans hc2).then (bset (Below.refl w.heap.size w2) w.heap.size 0 (.slice B n d) (Nat.le_refl _)) (by omega)
  · obtain ⟨m, hm⟩ : ∃ m : Nat, min (20 : Int) (s.size : Int) = m := ⟨min 20 s.size, by omega⟩
    have hm20 : m ≤ 20 := by omega
    go_wp2_with fail
    refine (l00Min_min 20 (s.size : Int) _).mono ?_; rintro e w9 ⟨rfl, rfl⟩
    rw [hm]
    clear hm
    go_wp2_with fail
    refine (l03Draw_any p (K + 2) m _ hs1 (by omega)).mono ?_
    rintro e w2 ⟨B, d, xs, rfl, hxl, hob, hs2, hc2⟩
    have c2 := hc2.cell c1 (.inr (by omega))
    have f2 := hc2.froz f1 (by omega) (.inr (by omega))
    have z2 := hc2.size
    have HX := Lib.hid hxl
    clear hxl
    go_wp2
    refine bodyPost_ret (v := .agg #[.slice B m d]) (by simp [results, Tryz.results26, go_sem, *]) rfl ⟨B, m, d, xs, rfl, HX.out, by omega, ?_, ?_, ?_⟩
    · exact (hob.below _ _ _ (by omega)).mono (by omega) (by simp)
    · exact (hs2.below (bset (Below.refl w.heap.size w2) w.heap.size 0 (.slice B m d) (Nat.le_refl _)) (by omega)).more (by omega)
    · exact (ch1.trans hc2).then (bset (Below.refl w.heap.size w2) w.heap.size 0 (.slice B m d) (Nat.le_refl _)) (by omega)
end Go.Proofs.YtkmejkeanmjfbaaGreatDoor

/-! ### The draws of keys, and of what the laws on the key punch take. -/
namespace Go.Proofs.YtkmejkeanmjfbaaGreatDoor
open Go.RowKit

theorem byts_str (u : List UInt8) (t : ByteArray) : byts u ++ Lib.strCells t = byts (u ++ byt t) := by
  unfold byts Lib.strCells byt
  rw [List.map_append]
abbrev spB : ByteArray := { data := #[65, 35, 97, 49] }
theorem byts_set (u : List UInt8) (k : Nat) (c : UInt8) : (byts u).set k (.int .u8 (c.toNat : Int)) = byts (u.set k c) := by unfold byts; rw [List.map_set]
/-- Behind k letters. -/
def KtR (p K : Nat) (s : ByteArray) (w wr : World) (o q : Value) : Prop := ∃ (k m g cg : Nat) (u : List UInt8), k ≤ s.size ∧ q = .int .i64 k ∧ u.length = m ∧ m ≤ k ∧ o = .slice (some ⟨g, 0, none⟩) m cg ∧
  wr.ownsRow w.heap.size 5 1 (.slice (some ⟨g, 0, none⟩) m cg) m (byts u) ∧ Chg p (p + 1) w wr ∧ SrcK wr p (K + 4 * k)
def TypP (p K : Nat) (w : World) (e : Ending) (w' : World) : Prop := ∃ t : ByteArray, t.size ≤ 22 ∧ e = .returned (.string t) ∧ SrcK w' p (K + 100) ∧ Chg p (p + 1) w w'

set_option maxRecDepth 20000 in
set_option maxHeartbeats 8000000 in
theorem l05Typed_any (p K : Nat) (s : ByteArray) (w : World) (h : SrcK w p K) (hK : K + 200 < 700000) (hs21 : s.size ≤ 21) :
    Calls Tryz.prog 28 #[.pointer (some ⟨p, 0, none⟩), .string s] w (TypP p K w) := by
  obtain ⟨j0, hj, hj0, hj1, hj2⟩ := info_parts info_u8K
  have hlt := h.lt
  go_enter Tryz.func28, Tryz.ntmps28
  go_wp2
  go_loopw [5, 6] (fun o q wr => KtR p K s w wr o q) (fun _ q _ => s.size - (intOf q).toNat)
  case atStart => exact ⟨0, 0, w.heap.size, 0, [], Nat.zero_le _, rfl, rfl, Nat.le_refl _, rfl, own_lit w #[] 0 rfl (Nat.le_refl _) (by omega) rfl, (Chg.refl _ _ _).then (ba (b0 w) _) (Nat.le_refl _), h.later (ba (b0 w) _)⟩
  case round =>
    obtain ⟨wo, rfl⟩ : ∃ wo : World, wo = wr := ⟨_, rfl⟩
    obtain ⟨k, m, g, cg, u, hk, rfl, hul, hmk, rfl, hown, hch, hsr⟩ := hrel
    have HUL := Lib.hid hul
    have HCH := Lib.hid hch
    clear hul hch
    by_cases hlt2 : k < s.size
    · have i1 : (k : Int) < (s.size : Int) := by omega
      obtain ⟨ch, hch⟩ : ∃ ch, ch = s[k] := ⟨_, rfl⟩
      have HS := Lib.hid hch
      by_cases h1 : (s[k].toNat : Int) = 109
      · have n1 := beq_t h1
        clear h1 hch
        go_wp2_with fail
        refine (l03DrawText_any p _ 1 _ hsr (by omega)).mono ?_
        rintro e w3 ⟨t, ht1, _, rfl, hs3, hc3⟩
        have HC3 := Lib.hid (HCH.out.trans hc3)
        have hown3 := own_chg hown hc3 (by omega)
        have hbase := HC3.out.size
        have hp3 := hs3.lt
        clear hown hc3 hsr
        go_wp2_with (at_builtin; go_loud (refine Lib.wpList_append_own_string _ rfl (.tmp 19) (.tmp 21) 22 9 rfl w.heap.size 5 j0 Tryz.underlying22 Tryz.underlying9 hj hj0 hj1 hj2 _ m (byts u) rfl hown3 t rfl (by unfold maxLen; omega) (by omega) hbase ?_; intro v' w6 hown6 hg6 _; have hb6 : Below w.heap.size w3 w6 := (Below.refl _ _).grown hg6 hbase (fun kk hkk => (hown3.lt kk hkk).1); rw [ht1, byts_str] at hown6; obtain ⟨gg, cap, rfl, _, _⟩ := hown6.form (by omega)))
        have HO := Lib.hid hown6
        have HC := Lib.hid (HC3.out.then hb6 (Nat.le_refl _))
        have HSS := Lib.hid ((hs3.below hb6 hlt).more (show K + 4 * k + 4 * 1 ≤ K + 4 * (k + 1) by omega))
        have HL := Lib.hid (show (u ++ byt t).length = m + 1 by rw [List.length_append, HUL.out, byt_size, ht1])
        clear hown6 hown3 hb6 hg6 hbase hs3
        go_wp2
        go_roundw
        case rel =>
          have P : KtR p K s w w6 (.slice (some ⟨gg, 0, none⟩) (m + 1) cap) (.int .i64 ((k : Int) + 1)) := ⟨k + 1, m + 1, gg, cap, _, by omega, by go_num, HL.out, by omega, rfl, HO.out, HC.out, HSS.out⟩
          first | exact P | exact ⟨_, P, rfl⟩ | exact ⟨_, _, P, rfl, rfl⟩ | exact ⟨_, _, _, P, rfl, rfl, rfl⟩ | exact ⟨_, _, _, _, P, rfl, rfl, rfl, rfl⟩ | exact ⟨_, _, _, _, _, P, rfl, rfl, rfl, rfl, rfl⟩ | exact ⟨_, _, _, _, _, _, P, rfl, rfl, rfl, rfl, rfl, rfl⟩ | exact ⟨_, _, _, _, _, _, _, P, rfl, rfl, rfl, rfl, rfl, rfl, rfl⟩ | exact ⟨_, _, _, _, _, _, _, _, P, rfl, rfl, rfl, rfl, rfl, rfl, rfl, rfl⟩
        case measure => simp [intOf]; omega
      · have n1 := beq_f h1
        by_cases h2 : (s[k].toNat : Int) = 110
        · have n2 := beq_t h2
          clear h1 h2 hch
          go_wp2_with fail
          refine (pick_any p _ 10 _ hsr (by omega) (by omega)).mono ?_
          rintro e w3 ⟨x, hx, rfl, hs3, hc3⟩
          have hx10 : x < 10 := by omega
          have zw : IntKind.i64.wrap (48 + (x : Int)) = 48 + (x : Int) := by rw [IntKind.wrap_i64]; omega
          have zu : IntKind.u8.wrap (48 + (x : Int)) = 48 + (x : Int) := by simp [IntKind.wrap, IntKind.bits, IntKind.signed]; omega
          have HC3 := Lib.hid (HCH.out.trans hc3)
          have hown3 := own_chg hown hc3 (by omega)
          have hbase := HC3.out.size
          have hp3 := hs3.lt
          clear hown hc3 hsr hx
          go_wp2_with (at_builtin; refine wpList_ap rfl (.tmp 25) (.tmp 30) 22 rfl w.heap.size 5 j0 _ 1 1 Tryz.underlying22 hj hj0 hj1 hj2 rfl (by omega) _ m _ (byts u) rfl w3 hown3 1 #[.int .u8 (48 + (x : Int))] w3.heap.size rfl rfl rfl (by intro v hv; simp at hv; subst hv; rfl) (by omega) (by omega) (by omega) hbase ?_; intro gg cap w6 hown6 hb6 hg6 _ _)
          have HO := Lib.hid (show w6.ownsRow w.heap.size 5 1 (.slice (some ⟨gg, 0, none⟩) (m + 1) cap) (m + 1) (byts (u ++ [UInt8.ofNat (48 + x)])) by rw [byts_snoc, show ((UInt8.ofNat (48 + x)).toNat : Int) = 48 + (x : Int) by rw [UInt8.toNat_ofNat']; omega]; exact hown6)
          have HC := Lib.hid (HC3.out.then hb6 (Nat.le_refl _))
          have HSS := Lib.hid ((hs3.below hb6 hlt).more (show K + 4 * k + 2 ≤ K + 4 * (k + 1) by omega))
          have HL := Lib.hid (show (u ++ [UInt8.ofNat (48 + x)]).length = m + 1 by rw [List.length_append, HUL.out]; rfl)
          clear hown6 hown3 hb6 hg6 hbase hs3
          go_wp2
          go_roundw
          case rel =>
            have P : KtR p K s w w6 (.slice (some ⟨gg, 0, none⟩) (m + 1) cap) (.int .i64 ((k : Int) + 1)) := ⟨k + 1, m + 1, gg, cap, _, by omega, by go_num, HL.out, by omega, rfl, HO.out, HC.out, HSS.out⟩
            first | exact P | exact ⟨_, P, rfl⟩ | exact ⟨_, _, P, rfl, rfl⟩ | exact ⟨_, _, _, P, rfl, rfl, rfl⟩ | exact ⟨_, _, _, _, P, rfl, rfl, rfl, rfl⟩ | exact ⟨_, _, _, _, _, P, rfl, rfl, rfl, rfl, rfl⟩ | exact ⟨_, _, _, _, _, _, P, rfl, rfl, rfl, rfl, rfl, rfl⟩ | exact ⟨_, _, _, _, _, _, _, P, rfl, rfl, rfl, rfl, rfl, rfl, rfl⟩ | exact ⟨_, _, _, _, _, _, _, _, P, rfl, rfl, rfl, rfl, rfl, rfl, rfl, rfl⟩
          case measure => simp [intOf]; omega
        · have n2 := beq_f h2
          clear h1 h2 hch
          have HO := Lib.hid hown
          have HSS := Lib.hid (hsr.more (show K + 4 * k ≤ K + 4 * (k + 1) by omega))
          clear hown hsr
          go_wp2
          go_roundw
          case rel =>
            have P : KtR p K s w wo (.slice (some ⟨g, 0, none⟩) m cg) (.int .i64 ((k : Int) + 1)) := ⟨k + 1, m, g, cg, u, by omega, by go_num, HUL.out, by omega, rfl, HO.out, HCH.out, HSS.out⟩
            first | exact P | exact ⟨_, P, rfl⟩ | exact ⟨_, _, P, rfl, rfl⟩ | exact ⟨_, _, _, P, rfl, rfl, rfl⟩ | exact ⟨_, _, _, _, P, rfl, rfl, rfl, rfl⟩ | exact ⟨_, _, _, _, _, P, rfl, rfl, rfl, rfl, rfl⟩ | exact ⟨_, _, _, _, _, _, P, rfl, rfl, rfl, rfl, rfl, rfl⟩ | exact ⟨_, _, _, _, _, _, _, P, rfl, rfl, rfl, rfl, rfl, rfl, rfl⟩ | exact ⟨_, _, _, _, _, _, _, _, P, rfl, rfl, rfl, rfl, rfl, rfl, rfl, rfl⟩
          case measure => simp [intOf]; omega
    · obtain rfl : k = s.size := by omega
      have hbase := HCH.out.size
      go_wp2_with fail
      refine (pick_any p _ 16 _ hsr (by omega) (by omega)).mono ?_
      rintro e w3 ⟨y, hy, rfl, hs3, hc3⟩
      have HC3 := Lib.hid (HCH.out.trans hc3)
      have hown3 := own_chg hown hc3 (by omega)
      have hbase := HC3.out.size
      have hp3 := hs3.lt
      clear hown hc3 hsr hy
      by_cases y0 : y = 0
      · subst y0
        go_wp2_with (at_builtin; refine wpList_ap rfl (.tmp 36) (.tmp 37) 22 rfl w.heap.size 5 j0 _ 1 1 Tryz.underlying22 hj hj0 hj1 hj2 rfl (by omega) _ m _ (byts u) rfl w3 hown3 1 #[.int .u8 49] w3.heap.size rfl rfl rfl (by intro v hv; simp at hv; subst hv; rfl) (by omega) (by omega) (by omega) hbase ?_; intro gg cap w6 hown6 hb6 hg6 _ _; have hconv := conv_text (s := u ++ [49]) (show w6.ownsRow w.heap.size 5 1 (.slice (some ⟨gg, 0, none⟩) (m + 1) cap) (m + 1) (byts (u ++ [49])) by rw [byts_snoc]; exact hown6))
        have HC := Lib.hid (HC3.out.then hb6 (Nat.le_refl _))
        have HSS := Lib.hid (hs3.below hb6 hlt)
        clear hown6 hown3 hb6 hg6 hbase hs3
        go_wp2
        go_ret
        exact ⟨bs_ (u ++ [49]), by rw [bs_size, List.length_append, HUL.out]; show m + 1 ≤ 22; omega, rfl, HSS.out.more (by omega), HC.out⟩
      · have i0 : ((y : Int) == 0) = false := beq_f (by omega)
        by_cases y1 : y = 1
        · have i2 : ((y : Int) == 1) = true := beq_t (by omega)
          clear y0 y1
          by_cases hm0 : 0 < m
          · have i3 : (0 : Int) < (m : Int) := by omega
            obtain ⟨g', hB, hg1, hg2⟩ := own_at hown3 (k := 0) hm0
            obtain rfl : g = g' := by injection hB with hB; injection hB
            have OB := Lib.hid (Ob.of hown3)
            have hpg : p < g := by omega
            clear hown3
            go_wp2_with fail
            refine (pick_any p _ (m : Int) _ hs3 (by omega) (by omega)).mono ?_
            rintro e w4 ⟨x, hx, rfl, hs4, hc4⟩
            have hxm : x < m := by omega
            go_wp2_with fail
            refine (pick_any p _ 4 _ hs4 (by omega) (by omega)).mono ?_
            rintro e w5 ⟨z, hz, rfl, hs5, hc5⟩
            have hz4 : z < 4 := by omega
            have i4 : (z : Int) < 4 := by omega
            have i5 : (x : Int) < (m : Int) := by omega
            have cy : Chg p (p + 1) w3 w5 := hc4.trans hc5
            have ob5 := OB.out.chg cy (.inr (by omega))
            have d1 := own_cell ob5.1 x (by rw [byts_length, HUL.out]; exact hxm)
            have e1 := ob5.1.frozenAt x
            have HO5 := Lib.hid (ownsRow_set ob5.1 x)
            have HS5 := Lib.hid hs5
            have HC5 := Lib.hid (HC3.out.trans cy)
            have hz5 := cy.size
            have hconv : (convert 22 9 (.slice (some ⟨g, 0, none⟩) m cg)).run Tryz.prog (w5.setCell ⟨g, x, none⟩ (.int .u8 ((spB[z]'(by exact hz4)).toNat : Int))) = .ok (.string (bs_ (u.set x (spB[z]'(by exact hz4))))) (w5.setCell ⟨g, x, none⟩ (.int .u8 ((spB[z]'(by exact hz4)).toNat : Int))) := by
              refine conv_text (base := w.heap.size) ?_
              rw [← byts_set]
              exact HO5.out _
            clear ob5 hs5 hs4 hs3
            go_wp2
            go_ret
            exact ⟨bs_ (u.set x (spB[z]'(by exact hz4))), by rw [bs_size, List.length_set, HUL.out]; omega, rfl, (HS5.out.set _ _ hpg).more (by omega), HC5.out.then (bset (Below.refl w.heap.size w5) g x _ hg1) (Nat.le_refl _)⟩
          · have i3 : ¬ (0 : Int) < (m : Int) := by omega
            obtain rfl : m = 0 := by omega
            have hconv := conv_text hown3
            clear hown3
            go_wp2
            go_ret
            exact ⟨bs_ u, by rw [bs_size, HUL.out]; omega, rfl, hs3.more (by omega), HC3.out⟩
        · have i2 : ((y : Int) == 1) = false := beq_f (by omega)
          have hconv := conv_text hown3
          clear hown3 y0 y1
          go_wp2
          go_ret
          exact ⟨bs_ u, by rw [bs_size, HUL.out]; omega, rfl, hs3.more (by omega), HC3.out⟩
end Go.Proofs.YtkmejkeanmjfbaaGreatDoor

/-! ### The draws of PunchByProgram, KeysFor, VerifyCard, StrokesSaved. -/
namespace Go.Proofs.YtkmejkeanmjfbaaGreatDoor
open Go.RowKit

/-- A program card, a card and keys. -/
def TriP (w : World) (e : Ending) (w' : World) : Prop := ∃ (s : ByteArray) (B : Option Addr) (n d : Nat) (xs : List Int) (t : ByteArray), s.size ≤ 21 ∧ e = .returned (.tuple #[.string s, .agg #[.slice B n d], .string t]) ∧ xs.length = n ∧ n ≤ 40 ∧ t.size ≤ 22 ∧
  Ob w' w.heap.size w'.heap.size 2 1 (.slice B n d) n (ints xs) ∧ Below w.heap.size w w'
end Go.Proofs.YtkmejkeanmjfbaaGreatDoor

/-! ### The draws of KeysFor and VerifyCard. -/
namespace Go.Proofs.YtkmejkeanmjfbaaGreatDoor
open Go.RowKit

/-- A program card and two cards. -/
def TwoP (w : World) (e : Ending) (w' : World) : Prop := ∃ (s : ByteArray) (B : Option Addr) (n d : Nat) (xs : List Int) (C : Option Addr) (m f : Nat) (ys : List Int), s.size ≤ 21 ∧ e = .returned (.tuple #[.string s, .agg #[.slice B n d], .agg #[.slice C m f]]) ∧ xs.length = n ∧ n ≤ 40 ∧ ys.length = m ∧ m ≤ 40 ∧
  Ob w' w.heap.size w'.heap.size 2 1 (.slice B n d) n (ints xs) ∧ Ob w' w.heap.size w'.heap.size 2 1 (.slice C m f) m (ints ys) ∧ Below w.heap.size w w'
/-- A program card, two cards and keys. -/
def FouP (w : World) (e : Ending) (w' : World) : Prop := ∃ (s : ByteArray) (B : Option Addr) (n d : Nat) (xs : List Int) (C : Option Addr) (m f : Nat) (ys : List Int) (t : ByteArray), s.size ≤ 21 ∧ e = .returned (.tuple #[.string s, .agg #[.slice B n d], .agg #[.slice C m f], .string t]) ∧ xs.length = n ∧ n ≤ 40 ∧ ys.length = m ∧ m ≤ 40 ∧ t.size ≤ 22 ∧
  Ob w' w.heap.size w'.heap.size 2 1 (.slice B n d) n (ints xs) ∧ Ob w' w.heap.size w'.heap.size 2 1 (.slice C m f) m (ints ys) ∧ Below w.heap.size w w'
/-- Behind the card that is punched. -/
structure KcC (p K : Nat) (v wx : World) (s8 s9 : Value) (b : Nat) (Q : Option Addr) (m f lo hi : Nat) (R : List Int) (z : Int) : Prop where
  ptr : s8 = .pointer (some ⟨b, 0, none⟩)
  code : s9 = .int .i64 z
  some_ : z = 0 → 0 < m
  len : R.length = m
  m20 : m ≤ 20
  cell : wx.cell? ⟨b, 0, none⟩ = some (.slice Q m f)
  ob : Ob wx lo hi 2 1 (.slice Q m f) m (ints R)
  far : b < lo ∨ hi ≤ b
  lo : v.heap.size ≤ lo
  hi : hi ≤ wx.heap.size
  b0 : v.heap.size ≤ b
  b1 : b < wx.heap.size
  src : SrcK wx p K
  chg : Chg p (p + 1) v wx
theorem pp_some {s : ByteArray} {xs : List Int} {t : ByteArray} (h : ppC s [xs] t = 0) : 0 < (ppR s xs t).length := by
  have h1 : pgC s true [xs] = 0 := by
    by_cases e : pgC s true [xs] = 0
    · exact e
    · rw [ppC_1 e] at h; exact absurd h e
  unfold ppR
  rw [if_pos h, pchL_length]
  exact (progB_len (pg_ok1 h1).1).1

end Go.Proofs.YtkmejkeanmjfbaaGreatDoor
