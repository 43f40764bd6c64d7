/- The draws of program cards and keys. The draws of keys, and of what the laws on the key punch take. The draws of PunchByProgram, KeysFor, VerifyCard, StrokesSaved. The draws of KeysFor and VerifyCard. -/
import Derived.Test.YtkmejkeanmjfbaaKeysFn
import Derived.Test.YtkmejkeanmjfbaaBent
import Derived.Lib.AppendStr
import Derived.Test.YtkmejkeanmjfbaaShDraw
import Derived.Test.YtkmejkeanmjfbaaBoxEnd
/-! ### The draws of program cards and keys. -/
namespace Go.Proofs.Ytkmejkeanmjfbaa
open Go.RowKit

theorem l00Min_min (a b : Int) (w : World) : Calls Try.prog 62 #[.int .i64 a, .int .i64 b] w fun e w' => e = .returned (.int .i64 (min a b)) ∧ w = w' := by
  by_cases h : a < b
  · have HM := Lib.hid (show min a b = a by omega)
    go_enter Try.func62, Try.ntmps62
    go_wp2
    go_ret
    exact ⟨ret_int HM.out.symm, rfl⟩
  · have HM := Lib.hid (show min a b = b by omega)
    go_enter Try.func62, Try.ntmps62
    go_wp2
    go_ret
    exact ⟨ret_int HM.out.symm, rfl⟩

theorem text_any (p K : Nat) (A : Option Addr) (n c : Nat) (ts : List ByteArray) (w : World) (h : SrcK w p K) (hK : K < 900000) (hxl : ts.length = n) (hn : 0 < n) (hn2 : n ≤ 200) (ha : Rd w w.heap.size 1 A n (strv ts)) (hp : ∀ g o, A = some ⟨g, o, none⟩ → g ≠ p) :
    Calls Try.prog 59 #[.pointer (some ⟨p, 0, none⟩), .slice A n c] w fun e w' => ∃ z, z ∈ ts ∧ e = .returned (.string z) ∧ SrcK w' p (K + 2) ∧ Chg p (p + 1) w w' := by
  obtain ⟨g, o, rfl, hg, hcell⟩ := ha.at_ hn
  have hgp := hp g o rfl
  have HXL := Lib.hid hxl
  clear hxl hp
  go_enter Try.func59, Try.ntmps59
  go_wp2_with fail
  refine (pick_any p K (n : Int) _ h (by omega) (by omega)).mono ?_
  rintro e w1 ⟨x, hx, rfl, hs1, hc1⟩
  have hxn : x < n := by omega
  have i1 : (x : Int) < (n : Int) := by omega
  have d1 := hc1.cell (hcell x _ (strv_get ts x (by rw [HXL.out]; exact hxn))) (by omega)
  clear hcell
  go_wp2
  go_ret
  exact ⟨_, List.getElem_mem _, rfl, hs1, hc1⟩

abbrev mmB : ByteArray := { data := #[109, 109, 110, 110, 115, 100] }
/-- Behind k letters. -/
def KdR (p K n : Nat) (w wr : World) (o q : Value) : Prop := ∃ (k g cg : Nat) (s : List UInt8), k ≤ n ∧ q = .int .i64 k ∧ o = .slice (some ⟨g, 0, none⟩) k cg ∧ s.length = k ∧
  wr.ownsRow w.heap.size 5 1 (.slice (some ⟨g, 0, none⟩) k cg) k (byts s) ∧ Chg p (p + 1) w wr ∧ SrcK wr p (K + 2 * k)

set_option maxRecDepth 20000 in
set_option maxHeartbeats 4000000 in
theorem l05Draw_any (p K n : Nat) (w : World) (h : SrcK w p K) (hK : K + 2 * n < 900000) :
    Calls Try.prog 58 #[.pointer (some ⟨p, 0, none⟩), .int .i64 (n : Int)] w fun e w' => ∃ t : ByteArray, t.size = n ∧ e = .returned (.string t) ∧ SrcK w' p (K + 2 * n) ∧ Chg p (p + 1) w w' := by
  obtain ⟨j0, hj, hj0, hj1, hj2⟩ := info_parts info_u8K
  have hlt := h.lt
  go_enter Try.func58, Try.ntmps58
  go_wp2
  go_loopw [5, 6] (fun o q wr => KdR p K n w wr o q) (fun _ q _ => n - (intOf q).toNat)
  case atStart => exact ⟨0, w.heap.size, 0, [], Nat.zero_le _, rfl, rfl, rfl, own_lit w #[] 0 rfl (Nat.le_refl _) (by omega) rfl, (Chg.refl _ _ _).then (ba (b0 w) _) (Nat.le_refl _), h.later (ba (b0 w) _)⟩
  case round =>
    obtain ⟨wo, rfl⟩ : ∃ wo : World, wo = wr := ⟨_, rfl⟩
    obtain ⟨k, g, cg, s, hk, rfl, rfl, hsl, hown, hch, hsr⟩ := hrel
    have HSL := Lib.hid hsl
    have HCH := Lib.hid hch
    clear hsl hch
    by_cases hlt2 : k < n
    · have i1 : (k : Int) < (n : Int) := by omega
      go_wp2_with fail
      refine (pick_any p _ 6 _ hsr (by omega) (by omega)).mono ?_
      rintro e w3 ⟨x, hx, rfl, hs3, hc3⟩
      have hx40 : x < 6 := by omega
      have i2 : (x : Int) < 6 := by omega
      have hown3 := own_chg hown hc3 (by omega)
      have HC3 := Lib.hid (HCH.out.trans hc3)
      have HS3 := Lib.hid hs3
      have hbase := HC3.out.size
      clear hown hc3 hs3 hx hsr
      go_wp2_with (at_builtin; refine wpList_ap rfl (.tmp 13) (.tmp 17) 22 rfl w.heap.size 5 j0 _ 1 1 Try.underlying22 hj hj0 hj1 hj2 rfl (by omega) _ k _ (byts s) rfl w3 hown3 1 #[.int .u8 ((mmB[x]'(by exact hx40)).toNat : Int)] w3.heap.size rfl rfl rfl (by intro v hv; simp at hv; subst hv; rfl) (by omega) (by omega) (by omega) hbase ?_; intro gg cap w6 hown6 hb6 hg6 _ _)
      have HO := Lib.hid (show w6.ownsRow w.heap.size 5 1 (.slice (some ⟨gg, 0, none⟩) (k + 1) cap) (k + 1) (byts (s ++ [mmB[x]'(by exact hx40)])) by rw [byts_snoc]; exact hown6)
      have HC := Lib.hid (HC3.out.then hb6 (Nat.le_refl _))
      have HS := Lib.hid ((HS3.out.below hb6 hlt).more (show K + 2 * k + 2 ≤ K + 2 * (k + 1) by omega))
      have HL := Lib.hid (show (s ++ [mmB[x]'(by exact hx40)]).length = k + 1 by rw [List.length_append, HSL.out]; rfl)
      clear hown6 hown3 hb6 hg6 hbase
      go_wp2
      go_roundw
      case rel => exact ⟨k + 1, gg, cap, _, by omega, by go_num, rfl, HL.out, HO.out, HC.out, HS.out⟩
      case measure => simp [intOf]; omega
    · obtain rfl : k = n := by omega
      have hconv := conv_text hown
      clear hown
      go_wp2
      go_ret
      exact ⟨bs_ s, by rw [bs_size, HSL.out], rfl, hsr, HCH.out⟩

/-- What a draw of a program card hands back. -/
def TextP (p K : Nat) (w : World) (e : Ending) (w' : World) : Prop := ∃ t : ByteArray, t.size ≤ 21 ∧ e = .returned (.string t) ∧ SrcK w' p (K + 70) ∧ Chg p (p + 1) w w'
theorem app_size (a b : ByteArray) : (a ++ b).size = a.size + b.size := by simp
set_option maxRecDepth 20000 in
set_option maxHeartbeats 4000000 in
theorem l05Bent_any (p K : Nat) (w : World) (h : SrcK w p K) (hK : K + 100 < 800000) : Calls Try.prog 29 #[.pointer (some ⟨p, 0, none⟩)] w (TextP p K w) := by
  have hlt := h.lt
  go_enter Try.func29, Try.ntmps29
  go_wp2_with fail
  refine (pick_any p K 7 _ h (by omega) (by omega)).mono ?_
  rintro e w1 ⟨x, hx, rfl, hs1, hc1⟩
  have hx6 : x < 7 := by omega
  have zw : IntKind.i64.wrap (1 + (x : Int)) = ((1 + x : Nat) : Int) := by rw [IntKind.wrap_i64]; omega
  clear hx
  go_wp2_with fail
  refine (l05Draw_any p (K + 2) (1 + x) _ hs1 (by omega)).mono ?_
  rintro e w2 ⟨t, ht, rfl, hs2, hc2⟩
  have HT := Lib.hid ht
  have HC2 := Lib.hid (hc1.trans hc2)
  clear ht zw hs1 hc1 hc2
  go_wp2_with fail
  refine (pick_any p _ 16 _ hs2 (by omega) (by omega)).mono ?_
  rintro e w3 ⟨y, hy, rfl, hs3, hc3⟩
  have HC3 := Lib.hid (HC2.out.trans hc3)
  have hp3 := hs3.lt
  clear hs2 hc3 hy
  by_cases y0 : y = 0
  · subst y0
    go_wp2
    go_ret
    exact ⟨⟨#[]⟩, by decide, rfl, hs3.more (by omega), HC3.out⟩
  · have i0 : ((y : Int) == 0) = false := beq_f (by omega)
    by_cases y1 : y = 1
    · have i1 : ((y : Int) == 1) = true := beq_t (by omega)
      clear y0 y1
      go_wp2_with fail
      refine (text_any p _ _ 3 3 [⟨#[120]⟩, ⟨#[77]⟩, ⟨#[32]⟩] _ (hs3.later (ba (b0 _) _)) (by omega) rfl (by omega) (by omega) (Rd.own (own_lit w3 #[.string ⟨#[120]⟩, .string ⟨#[77]⟩, .string ⟨#[32]⟩] 3 rfl (Nat.le_refl _) (by omega) rfl)) (by intro gg oo hgg; injection hgg with hgg; injection hgg with hgg; omega)).mono ?_
      rintro e w4 ⟨z, hz, rfl, hs4, hc4⟩
      have HC4 := Lib.hid ((HC3.out.then (ba (b0 w3) _) HC3.out.size).trans hc4)
      have hz1 : z.size = 1 := by
        simp only [List.mem_cons, List.not_mem_nil, or_false] at hz
        rcases hz with rfl | rfl | rfl <;> rfl
      have HZ := Lib.hid hz1
      have hsz : ¬ 9223372036854775807 < t.size + z.size := by rw [HZ.out, HT.out]; omega
      clear hz hz1 hc4
      go_wp2
      go_ret
      exact ⟨t ++ z, by rw [app_size, HZ.out, HT.out]; omega, rfl, hs4.more (by omega), HC4.out⟩
    · have i1 : ((y : Int) == 1) = false := beq_f (by omega)
      by_cases y2 : y = 2
      · have i2 : ((y : Int) == 2) = true := beq_t (by omega)
        clear y0 y1 y2
        go_wp2_with fail
        refine (pick_any p _ 2 _ hs3 (by omega) (by omega)).mono ?_
        rintro e w4 ⟨u, hu, rfl, hs4, hc4⟩
        have hu6 : u < 2 := by omega
        have zw : IntKind.i64.wrap (20 + (u : Int)) = ((20 + u : Nat) : Int) := by rw [IntKind.wrap_i64]; omega
        clear hu
        go_wp2_with fail
        refine (l05Draw_any p _ (20 + u) _ hs4 (by omega)).mono ?_
        rintro e w5 ⟨v, hv, rfl, hs5, hc5⟩
        have HV := Lib.hid hv
        have HC5 := Lib.hid ((HC3.out.trans hc4).trans hc5)
        clear hv zw hs4 hc4 hc5
        go_wp2
        go_ret
        exact ⟨v, by rw [HV.out]; omega, rfl, hs5.more (by omega), HC5.out⟩
      · have i2 : ((y : Int) == 2) = false := beq_f (by omega)
        clear y0 y1 y2
        go_wp2
        go_ret
        exact ⟨t, by rw [HT.out]; omega, rfl, hs3.more (by omega), HC3.out⟩

/-- What a draw of a card for a program card hands back. -/
def BfP (p K : Nat) (w : World) (e : Ending) (w' : World) : Prop := ∃ B n d xs, e = .returned (.agg #[.slice B n d]) ∧ List.length xs = n ∧ n ≤ 40 ∧ Ob w' w.heap.size w'.heap.size 2 1 (.slice B n d) n (ints xs) ∧ SrcK w' p (K + 260) ∧ Chg p (p + 1) w w'
set_option maxHeartbeats 4000000 in
theorem l05Before_any (p K : Nat) (s : ByteArray) (w : World) (h : SrcK w p K) (hK : K + 300 < 700000) (hs21 : s.size ≤ 21) : Calls Try.prog 30 #[.pointer (some ⟨p, 0, none⟩), .string s] w (BfP p K w) := by
  have hlt := h.lt
  obtain ⟨W, hW⟩ : ∃ W, W = w.alloc (.cells #[.slice none 0 0] 26) := ⟨_, rfl⟩
  have T0 : Below w.heap.size w W := by rw [hW]; exact ba (b0 w) _
  have c0 : W.cell? ⟨w.heap.size, 0, none⟩ = some (.slice none 0 0) := by rw [hW]; exact cell_new rfl rfl
  have f0 : W.frozen? ⟨w.heap.size, 0, none⟩ = false := by rw [hW]; exact froz_new rfl
  have z0 : W.heap.size = w.heap.size + 1 := by rw [hW]; simp
  have hs := h.later T0
  have hch := (Chg.refl p (p + 1) w).then T0 (Nat.le_refl _)
  have HW := Lib.hid hW
  clear hW h
  go_enter Try.func30, Try.ntmps30
  go_wp2_with fail
  rw [← HW.out]
  refine (one_any p K 16 _ hs (by omega) (by omega)).mono ?_
  rintro e w1 (⟨rfl, hs1, hc1⟩ | ⟨rfl, hs1, hc1⟩)
  all_goals
    have c1 := hc1.cell c0 (.inr (by omega))
    have f1 := hc1.froz f0 (by omega) (.inr (by omega))
    have z1 := hc1.size
    have ch1 := hch.trans hc1
    clear hc1 hs hch c0 f0
  · go_wp2_with fail
    refine (l03Bent_any p (K + 2) _ hs1 (by omega)).mono ?_
    rintro e w2 ⟨B, n, d, xs, rfl, hxl, hn40, hob, hs2, hc2⟩
    have c2 := hc2.cell c1 (.inr (by omega))
    have f2 := hc2.froz f1 (by omega) (.inr (by omega))
    have z2 := hc2.size
    have HX := Lib.hid hxl
    clear hxl
    go_wp2
    refine bodyPost_ret (v := .agg #[.slice B n d]) (by simp [results, Try.results30, go_sem, *]) rfl ⟨B, n, d, xs, rfl, HX.out, hn40, ?_, ?_, ?_⟩
    · exact (hob.below _ _ _ (by omega)).mono (by omega) (by simp)
    · exact (hs2.below (bset (Below.refl w.heap.size w2) w.heap.size 0 (.slice B n d) (Nat.le_refl _)) (by omega)).more (by omega)
    · exact (ch1.trans hc2).then (bset (Below.refl w.heap.size w2) w.heap.size 0 (.slice B n d) (Nat.le_refl _)) (by omega)
  · obtain ⟨m, hm⟩ : ∃ m : Nat, min (20 : Int) (s.size : Int) = m := ⟨min 20 s.size, by omega⟩
    have hm20 : m ≤ 20 := by omega
    go_wp2_with fail
    refine (l00Min_min 20 (s.size : Int) _).mono ?_; rintro e w9 ⟨rfl, rfl⟩
    rw [hm]
    clear hm
    go_wp2_with fail
    refine (l03Draw_any p (K + 2) m _ hs1 (by omega)).mono ?_
    rintro e w2 ⟨B, d, xs, rfl, hxl, hob, hs2, hc2⟩
    have c2 := hc2.cell c1 (.inr (by omega))
    have f2 := hc2.froz f1 (by omega) (.inr (by omega))
    have z2 := hc2.size
    have HX := Lib.hid hxl
    clear hxl
    go_wp2
    refine bodyPost_ret (v := .agg #[.slice B m d]) (by simp [results, Try.results30, go_sem, *]) rfl ⟨B, m, d, xs, rfl, HX.out, by omega, ?_, ?_, ?_⟩
    · exact (hob.below _ _ _ (by omega)).mono (by omega) (by simp)
    · exact (hs2.below (bset (Below.refl w.heap.size w2) w.heap.size 0 (.slice B m d) (Nat.le_refl _)) (by omega)).more (by omega)
    · exact (ch1.trans hc2).then (bset (Below.refl w.heap.size w2) w.heap.size 0 (.slice B m d) (Nat.le_refl _)) (by omega)
end Go.Proofs.Ytkmejkeanmjfbaa

/-! ### The draws of keys, and of what the laws on the key punch take. -/
namespace Go.Proofs.Ytkmejkeanmjfbaa
open Go.RowKit

theorem byts_str (u : List UInt8) (t : ByteArray) : byts u ++ Lib.strCells t = byts (u ++ byt t) := by
  unfold byts Lib.strCells byt
  rw [List.map_append]
abbrev spB : ByteArray := { data := #[65, 35, 97, 49] }
theorem byts_set (u : List UInt8) (k : Nat) (c : UInt8) : (byts u).set k (.int .u8 (c.toNat : Int)) = byts (u.set k c) := by unfold byts; rw [List.map_set]
/-- Behind k letters. -/
def KtR (p K : Nat) (s : ByteArray) (w wr : World) (o q : Value) : Prop := ∃ (k m g cg : Nat) (u : List UInt8), k ≤ s.size ∧ q = .int .i64 k ∧ u.length = m ∧ m ≤ k ∧ o = .slice (some ⟨g, 0, none⟩) m cg ∧
  wr.ownsRow w.heap.size 5 1 (.slice (some ⟨g, 0, none⟩) m cg) m (byts u) ∧ Chg p (p + 1) w wr ∧ SrcK wr p (K + 4 * k)
def TypP (p K : Nat) (w : World) (e : Ending) (w' : World) : Prop := ∃ t : ByteArray, t.size ≤ 22 ∧ e = .returned (.string t) ∧ SrcK w' p (K + 100) ∧ Chg p (p + 1) w w'

set_option maxRecDepth 20000 in
set_option maxHeartbeats 8000000 in
theorem l05Typed_any (p K : Nat) (s : ByteArray) (w : World) (h : SrcK w p K) (hK : K + 200 < 700000) (hs21 : s.size ≤ 21) :
    Calls Try.prog 31 #[.pointer (some ⟨p, 0, none⟩), .string s] w (TypP p K w) := by
  obtain ⟨j0, hj, hj0, hj1, hj2⟩ := info_parts info_u8K
  have hlt := h.lt
  go_enter Try.func31, Try.ntmps31
  go_wp2
  go_loopw [5, 6] (fun o q wr => KtR p K s w wr o q) (fun _ q _ => s.size - (intOf q).toNat)
  case atStart => exact ⟨0, 0, w.heap.size, 0, [], Nat.zero_le _, rfl, rfl, Nat.le_refl _, rfl, own_lit w #[] 0 rfl (Nat.le_refl _) (by omega) rfl, (Chg.refl _ _ _).then (ba (b0 w) _) (Nat.le_refl _), h.later (ba (b0 w) _)⟩
  case round =>
    obtain ⟨wo, rfl⟩ : ∃ wo : World, wo = wr := ⟨_, rfl⟩
    obtain ⟨k, m, g, cg, u, hk, rfl, hul, hmk, rfl, hown, hch, hsr⟩ := hrel
    have HUL := Lib.hid hul
    have HCH := Lib.hid hch
    clear hul hch
    by_cases hlt2 : k < s.size
    · have i1 : (k : Int) < (s.size : Int) := by omega
      obtain ⟨ch, hch⟩ : ∃ ch, ch = s[k] := ⟨_, rfl⟩
      have HS := Lib.hid hch
      by_cases h1 : (s[k].toNat : Int) = 109
      · have n1 := beq_t h1
        clear h1 hch
        go_wp2_with fail
        refine (l03DrawText_any p _ 1 _ hsr (by omega)).mono ?_
        rintro e w3 ⟨t, ht1, _, rfl, hs3, hc3⟩
        have HC3 := Lib.hid (HCH.out.trans hc3)
        have hown3 := own_chg hown hc3 (by omega)
        have hbase := HC3.out.size
        have hp3 := hs3.lt
        clear hown hc3 hsr
        go_wp2_with (at_builtin; go_loud (refine Lib.wpList_append_own_string _ rfl (.tmp 19) (.tmp 21) 22 9 rfl w.heap.size 5 j0 Try.underlying22 Try.underlying9 hj hj0 hj1 hj2 _ m (byts u) rfl hown3 t rfl (by unfold maxLen; omega) (by omega) hbase ?_; intro v' w6 hown6 hg6 _; have hb6 : Below w.heap.size w3 w6 := (Below.refl _ _).grown hg6 hbase (fun kk hkk => (hown3.lt kk hkk).1); rw [ht1, byts_str] at hown6; obtain ⟨gg, cap, rfl, _, _⟩ := hown6.form (by omega)))
        have HO := Lib.hid hown6
        have HC := Lib.hid (HC3.out.then hb6 (Nat.le_refl _))
        have HSS := Lib.hid ((hs3.below hb6 hlt).more (show K + 4 * k + 4 * 1 ≤ K + 4 * (k + 1) by omega))
        have HL := Lib.hid (show (u ++ byt t).length = m + 1 by rw [List.length_append, HUL.out, byt_size, ht1])
        clear hown6 hown3 hb6 hg6 hbase hs3
        go_wp2
        go_roundw
        case rel =>
          have P : KtR p K s w w6 (.slice (some ⟨gg, 0, none⟩) (m + 1) cap) (.int .i64 ((k : Int) + 1)) := ⟨k + 1, m + 1, gg, cap, _, by omega, by go_num, HL.out, by omega, rfl, HO.out, HC.out, HSS.out⟩
          first | exact P | exact ⟨_, P, rfl⟩ | exact ⟨_, _, P, rfl, rfl⟩ | exact ⟨_, _, _, P, rfl, rfl, rfl⟩ | exact ⟨_, _, _, _, P, rfl, rfl, rfl, rfl⟩ | exact ⟨_, _, _, _, _, P, rfl, rfl, rfl, rfl, rfl⟩ | exact ⟨_, _, _, _, _, _, P, rfl, rfl, rfl, rfl, rfl, rfl⟩ | exact ⟨_, _, _, _, _, _, _, P, rfl, rfl, rfl, rfl, rfl, rfl, rfl⟩ | exact ⟨_, _, _, _, _, _, _, _, P, rfl, rfl, rfl, rfl, rfl, rfl, rfl, rfl⟩
        case measure => simp [intOf]; omega
      · have n1 := beq_f h1
        by_cases h2 : (s[k].toNat : Int) = 110
        · have n2 := beq_t h2
          clear h1 h2 hch
          go_wp2_with fail
          refine (pick_any p _ 10 _ hsr (by omega) (by omega)).mono ?_
          rintro e w3 ⟨x, hx, rfl, hs3, hc3⟩
          have hx10 : x < 10 := by omega
          have zw : IntKind.i64.wrap (48 + (x : Int)) = 48 + (x : Int) := by rw [IntKind.wrap_i64]; omega
          have zu : IntKind.u8.wrap (48 + (x : Int)) = 48 + (x : Int) := by simp [IntKind.wrap, IntKind.bits, IntKind.signed]; omega
          have HC3 := Lib.hid (HCH.out.trans hc3)
          have hown3 := own_chg hown hc3 (by omega)
          have hbase := HC3.out.size
          have hp3 := hs3.lt
          clear hown hc3 hsr hx
          go_wp2_with (at_builtin; refine wpList_ap rfl (.tmp 25) (.tmp 30) 22 rfl w.heap.size 5 j0 _ 1 1 Try.underlying22 hj hj0 hj1 hj2 rfl (by omega) _ m _ (byts u) rfl w3 hown3 1 #[.int .u8 (48 + (x : Int))] w3.heap.size rfl rfl rfl (by intro v hv; simp at hv; subst hv; rfl) (by omega) (by omega) (by omega) hbase ?_; intro gg cap w6 hown6 hb6 hg6 _ _)
          have HO := Lib.hid (show w6.ownsRow w.heap.size 5 1 (.slice (some ⟨gg, 0, none⟩) (m + 1) cap) (m + 1) (byts (u ++ [UInt8.ofNat (48 + x)])) by rw [byts_snoc, show ((UInt8.ofNat (48 + x)).toNat : Int) = 48 + (x : Int) by rw [UInt8.toNat_ofNat']; omega]; exact hown6)
          have HC := Lib.hid (HC3.out.then hb6 (Nat.le_refl _))
          have HSS := Lib.hid ((hs3.below hb6 hlt).more (show K + 4 * k + 2 ≤ K + 4 * (k + 1) by omega))
          have HL := Lib.hid (show (u ++ [UInt8.ofNat (48 + x)]).length = m + 1 by rw [List.length_append, HUL.out]; rfl)
          clear hown6 hown3 hb6 hg6 hbase hs3
          go_wp2
          go_roundw
          case rel =>
            have P : KtR p K s w w6 (.slice (some ⟨gg, 0, none⟩) (m + 1) cap) (.int .i64 ((k : Int) + 1)) := ⟨k + 1, m + 1, gg, cap, _, by omega, by go_num, HL.out, by omega, rfl, HO.out, HC.out, HSS.out⟩
            first | exact P | exact ⟨_, P, rfl⟩ | exact ⟨_, _, P, rfl, rfl⟩ | exact ⟨_, _, _, P, rfl, rfl, rfl⟩ | exact ⟨_, _, _, _, P, rfl, rfl, rfl, rfl⟩ | exact ⟨_, _, _, _, _, P, rfl, rfl, rfl, rfl, rfl⟩ | exact ⟨_, _, _, _, _, _, P, rfl, rfl, rfl, rfl, rfl, rfl⟩ | exact ⟨_, _, _, _, _, _, _, P, rfl, rfl, rfl, rfl, rfl, rfl, rfl⟩ | exact ⟨_, _, _, _, _, _, _, _, P, rfl, rfl, rfl, rfl, rfl, rfl, rfl, rfl⟩
          case measure => simp [intOf]; omega
        · have n2 := beq_f h2
          clear h1 h2 hch
          have HO := Lib.hid hown
          have HSS := Lib.hid (hsr.more (show K + 4 * k ≤ K + 4 * (k + 1) by omega))
          clear hown hsr
          go_wp2
          go_roundw
          case rel =>
            have P : KtR p K s w wo (.slice (some ⟨g, 0, none⟩) m cg) (.int .i64 ((k : Int) + 1)) := ⟨k + 1, m, g, cg, u, by omega, by go_num, HUL.out, by omega, rfl, HO.out, HCH.out, HSS.out⟩
            first | exact P | exact ⟨_, P, rfl⟩ | exact ⟨_, _, P, rfl, rfl⟩ | exact ⟨_, _, _, P, rfl, rfl, rfl⟩ | exact ⟨_, _, _, _, P, rfl, rfl, rfl, rfl⟩ | exact ⟨_, _, _, _, _, P, rfl, rfl, rfl, rfl, rfl⟩ | exact ⟨_, _, _, _, _, _, P, rfl, rfl, rfl, rfl, rfl, rfl⟩ | exact ⟨_, _, _, _, _, _, _, P, rfl, rfl, rfl, rfl, rfl, rfl, rfl⟩ | exact ⟨_, _, _, _, _, _, _, _, P, rfl, rfl, rfl, rfl, rfl, rfl, rfl, rfl⟩
          case measure => simp [intOf]; omega
    · obtain rfl : k = s.size := by omega
      have hbase := HCH.out.size
      go_wp2_with fail
      refine (pick_any p _ 16 _ hsr (by omega) (by omega)).mono ?_
      rintro e w3 ⟨y, hy, rfl, hs3, hc3⟩
      have HC3 := Lib.hid (HCH.out.trans hc3)
      have hown3 := own_chg hown hc3 (by omega)
      have hbase := HC3.out.size
      have hp3 := hs3.lt
      clear hown hc3 hsr hy
      by_cases y0 : y = 0
      · subst y0
        go_wp2_with (at_builtin; refine wpList_ap rfl (.tmp 36) (.tmp 37) 22 rfl w.heap.size 5 j0 _ 1 1 Try.underlying22 hj hj0 hj1 hj2 rfl (by omega) _ m _ (byts u) rfl w3 hown3 1 #[.int .u8 49] w3.heap.size rfl rfl rfl (by intro v hv; simp at hv; subst hv; rfl) (by omega) (by omega) (by omega) hbase ?_; intro gg cap w6 hown6 hb6 hg6 _ _; have hconv := conv_text (s := u ++ [49]) (show w6.ownsRow w.heap.size 5 1 (.slice (some ⟨gg, 0, none⟩) (m + 1) cap) (m + 1) (byts (u ++ [49])) by rw [byts_snoc]; exact hown6))
        have HC := Lib.hid (HC3.out.then hb6 (Nat.le_refl _))
        have HSS := Lib.hid (hs3.below hb6 hlt)
        clear hown6 hown3 hb6 hg6 hbase hs3
        go_wp2
        go_ret
        exact ⟨bs_ (u ++ [49]), by rw [bs_size, List.length_append, HUL.out]; show m + 1 ≤ 22; omega, rfl, HSS.out.more (by omega), HC.out⟩
      · have i0 : ((y : Int) == 0) = false := beq_f (by omega)
        by_cases y1 : y = 1
        · have i2 : ((y : Int) == 1) = true := beq_t (by omega)
          clear y0 y1
          by_cases hm0 : 0 < m
          · have i3 : (0 : Int) < (m : Int) := by omega
            obtain ⟨g', hB, hg1, hg2⟩ := own_at hown3 (k := 0) hm0
            obtain rfl : g = g' := by injection hB with hB; injection hB
            have OB := Lib.hid (Ob.of hown3)
            have hpg : p < g := by omega
            clear hown3
            go_wp2_with fail
            refine (pick_any p _ (m : Int) _ hs3 (by omega) (by omega)).mono ?_
            rintro e w4 ⟨x, hx, rfl, hs4, hc4⟩
            have hxm : x < m := by omega
            go_wp2_with fail
            refine (pick_any p _ 4 _ hs4 (by omega) (by omega)).mono ?_
            rintro e w5 ⟨z, hz, rfl, hs5, hc5⟩
            have hz4 : z < 4 := by omega
            have i4 : (z : Int) < 4 := by omega
            have i5 : (x : Int) < (m : Int) := by omega
            have cy : Chg p (p + 1) w3 w5 := hc4.trans hc5
            have ob5 := OB.out.chg cy (.inr (by omega))
            have d1 := own_cell ob5.1 x (by rw [byts_length, HUL.out]; exact hxm)
            have e1 := ob5.1.frozenAt x
            have HO5 := Lib.hid (ownsRow_set ob5.1 x)
            have HS5 := Lib.hid hs5
            have HC5 := Lib.hid (HC3.out.trans cy)
            have hz5 := cy.size
            have hconv : (convert 22 9 (.slice (some ⟨g, 0, none⟩) m cg)).run Try.prog (w5.setCell ⟨g, x, none⟩ (.int .u8 ((spB[z]'(by exact hz4)).toNat : Int))) = .ok (.string (bs_ (u.set x (spB[z]'(by exact hz4))))) (w5.setCell ⟨g, x, none⟩ (.int .u8 ((spB[z]'(by exact hz4)).toNat : Int))) := by
              refine conv_text (base := w.heap.size) ?_
              rw [← byts_set]
              exact HO5.out _
            clear ob5 hs5 hs4 hs3
            go_wp2
            go_ret
            exact ⟨bs_ (u.set x (spB[z]'(by exact hz4))), by rw [bs_size, List.length_set, HUL.out]; omega, rfl, (HS5.out.set _ _ hpg).more (by omega), HC5.out.then (bset (Below.refl w.heap.size w5) g x _ hg1) (Nat.le_refl _)⟩
          · have i3 : ¬ (0 : Int) < (m : Int) := by omega
            obtain rfl : m = 0 := by omega
            have hconv := conv_text hown3
            clear hown3
            go_wp2
            go_ret
            exact ⟨bs_ u, by rw [bs_size, HUL.out]; omega, rfl, hs3.more (by omega), HC3.out⟩
        · have i2 : ((y : Int) == 1) = false := beq_f (by omega)
          have hconv := conv_text hown3
          clear hown3 y0 y1
          go_wp2
          go_ret
          exact ⟨bs_ u, by rw [bs_size, HUL.out]; omega, rfl, hs3.more (by omega), HC3.out⟩
end Go.Proofs.Ytkmejkeanmjfbaa

/-! ### The draws of PunchByProgram, KeysFor, VerifyCard, StrokesSaved. -/
namespace Go.Proofs.Ytkmejkeanmjfbaa
open Go.RowKit

/-- A program card, a card and keys. -/
def TriP (w : World) (e : Ending) (w' : World) : Prop := ∃ (s : ByteArray) (B : Option Addr) (n d : Nat) (xs : List Int) (t : ByteArray), s.size ≤ 21 ∧ e = .returned (.tuple #[.string s, .agg #[.slice B n d], .string t]) ∧ xs.length = n ∧ n ≤ 40 ∧ t.size ≤ 22 ∧
  Ob w' w.heap.size w'.heap.size 2 1 (.slice B n d) n (ints xs) ∧ Below w.heap.size w w'
set_option maxRecDepth 20000 in
set_option maxHeartbeats 8000000 in
theorem l05Three_any (A : Option Addr) (n c : Nat) (bs0 : List UInt8) (w : World) (ha : Rd w w.heap.size 1 A n (byts bs0)) (hn : n ≤ 1048576) :
    Calls Try.prog 22 #[.slice A n c] w (TriP w) := by
  obtain ⟨W, hW⟩ : ∃ W, W = w.alloc (.cells #[.slice none 0 0] 26) := ⟨_, rfl⟩
  have T0 : Below w.heap.size w W := by rw [hW]; exact ba (b0 w) _
  have c0 : W.cell? ⟨w.heap.size, 0, none⟩ = some (.slice none 0 0) := by rw [hW]; exact cell_new rfl rfl
  have f0 : W.frozen? ⟨w.heap.size, 0, none⟩ = false := by rw [hW]; exact froz_new rfl
  have z0 : W.heap.size = w.heap.size + 1 := by rw [hW]; simp
  have haW := ha.up T0
  have HW := Lib.hid hW
  clear hW ha
  go_enter Try.func22, Try.ntmps22
  go_wp2_with fail
  rw [← HW.out]
  refine (l00From_any A n c bs0 _ haW hn).mono ?_
  rintro e w1 ⟨p, hp, rfl, hs1, hb1⟩
  replace c0 := cell_later hb1 c0
  replace f0 := froz_later hb1 f0 (by omega)
  have T1 := bs T0 hb1
  have z1 := hb1.size
  have hlt := hs1.lt
  clear hb1 haW
  go_wp2_with fail
  refine (l05Bent_any p 0 _ hs1 (by omega)).mono ?_
  rintro e w2 ⟨s, hs21, rfl, hs2, hc2⟩
  replace c0 := hc2.cell c0 (.inl (by omega))
  replace f0 := hc2.froz f0 (by omega) (.inl (by omega))
  have T2 := hc2.below T1 (by omega) (by omega)
  have z2 := hc2.size
  clear hc2 hs1 T1
  go_wp2_with fail
  refine (l05Before_any p _ s _ hs2 (by omega) hs21).mono ?_
  rintro e w3 ⟨B, n, d, xs, rfl, hxl, hn40, hob, hs3, hc3⟩
  subst hxl
  replace c0 := hc3.cell c0 (.inl (by omega))
  replace f0 := hc3.froz f0 (by omega) (.inl (by omega))
  have z3 := hc3.size
  have TB := ba (b0 w3) (.cells #[.slice B xs.length d] 26)
  have HT4 := Lib.hid (bs (hc3.below T2 (by omega) (by omega)) TB)
  have b4 : (w3.alloc (.cells #[.slice B xs.length d] 26)).cell? ⟨w3.heap.size, 0, none⟩ = some (.slice B xs.length d) := cell_new rfl rfl
  replace c0 := cell_later TB c0
  replace f0 := froz_later TB f0 (by omega)
  have hs4 := hs3.later TB
  have HO4 := Lib.hid (hob.bs TB)
  have z4 : w3.heap.size + 1 ≤ (w3.alloc (.cells #[.slice B xs.length d] 26)).heap.size := by simp
  clear hob hc3 hs2 hs3 TB T2
  obtain ⟨v4, hv4⟩ : ∃ v4, v4 = w3.alloc (.cells #[.slice B xs.length d] 26) := ⟨_, rfl⟩
  rw [← hv4] at c0 f0 b4 hs4 HO4 HT4 z4
  have HV := Lib.hid hv4
  clear hv4
  go_wp2_with fail
  rw [← HV.out]
  have B4 := Lib.hid b4
  have C0 := Lib.hid c0
  have F0 := Lib.hid f0
  go_region_held3 (fun w' => w'.cell? ⟨w3.heap.size, 0, none⟩ = some (.slice B xs.length d)) (first | exact b4 | exact set_far b4 (by omega) | go_keep)
    ((go_at_call 31; refine (l05Typed_any p (0 + 70 + 260) s _ ?_ (by omega) hs21).mono ?_; (first | exact hs4 | exact hs4.drew); rintro e w5 ⟨u, hu, rfl, hs5, hc5⟩; have cx : Chg p (p + 1) v4 w5 := ⟨hc5.os, hc5.tape, hc5.output, hc5.size, hc5.block⟩; replace b4 := cx.cell B4.out (.inr (by omega)); replace c0 := cx.cell C0.out (.inl (by omega)); replace f0 := cx.froz F0.out (by omega) (.inl (by omega))))
  all_goals
    have HT5 := Lib.hid (cx.below HT4.out (by omega) (by omega))
    have HO5 := Lib.hid (HO4.out.chg cx (.inr (by omega)))
    have z5 := cx.size
    go_wp2
    refine bodyPost_ret (v := .tuple #[.string s, .agg #[.slice B xs.length d], .string u]) (by simp [results, Try.results22, go_sem, *]) rfl ⟨s, B, _, d, xs, u, hs21, rfl, rfl, hn40, hu, ?_, ?_⟩
    · exact (HO5.out.below _ _ _ (by omega)).mono (by omega) (by simp <;> omega)
    · exact bset HT5.out _ _ _ (Nat.le_refl _)

set_option maxHeartbeats 2000000 in
theorem DrawPunchByProgram_any (A : Option Addr) (n c : Nat) (bs0 : List UInt8) (w : World) (ha : Rd w w.heap.size 1 A n (byts bs0)) (hn : n ≤ 1048576) :
    Calls Try.prog 5 #[.slice A n c] w (TriP w) := by
  obtain ⟨W, hW⟩ : ∃ W, W = w.alloc (.cells #[.slice none 0 0] 26) := ⟨_, rfl⟩
  have T0 : Below w.heap.size w W := by rw [hW]; exact ba (b0 w) _
  have c0 : W.cell? ⟨w.heap.size, 0, none⟩ = some (.slice none 0 0) := by rw [hW]; exact cell_new rfl rfl
  have f0 : W.frozen? ⟨w.heap.size, 0, none⟩ = false := by rw [hW]; exact froz_new rfl
  have z0 : W.heap.size = w.heap.size + 1 := by rw [hW]; simp
  have haW := ha.up T0
  have HW := Lib.hid hW
  clear hW ha
  go_enter Try.func5, Try.ntmps5
  go_wp2_with fail
  rw [← HW.out]
  refine (l05Three_any A n c bs0 _ haW hn).mono ?_
  rintro e w1 ⟨s, B, n, d, xs, t, hs, rfl, hxl, hn40, ht, ho1, hb1⟩
  have c1 := cell_later hb1 c0
  have f1 := froz_later hb1 f0 (by omega)
  have HX := Lib.hid hxl
  clear hxl c0 f0 haW
  go_wp2
  refine bodyPost_ret (v := .tuple #[.string s, .agg #[.slice B n d], .string t]) (by simp [results, Try.results5, go_sem, *]) rfl ⟨s, B, n, d, xs, t, hs, rfl, HX.out, hn40, ht, ?_, ?_⟩
  · exact (ho1.below _ _ _ (by omega)).mono (by omega) (by simp <;> omega)
  · exact bset (bs T0 hb1) _ _ _ (Nat.le_refl _)

set_option maxRecDepth 20000 in
set_option maxHeartbeats 4000000 in
theorem DrawStrokesSaved_any (A : Option Addr) (n c : Nat) (bs0 : List UInt8) (w : World) (ha : Rd w w.heap.size 1 A n (byts bs0)) (hn : n ≤ 1048576) :
    Calls Try.prog 16 #[.slice A n c] w fun e w' => ∃ (s : ByteArray) (z : Int), s.size ≤ 21 ∧ e = .returned (.tuple #[.string s, .int .i64 z]) ∧ Below w.heap.size w w' := by
  go_enter Try.func16, Try.ntmps16
  go_wp2_with fail
  refine (l00From_any A n c bs0 _ ha hn).mono ?_; rintro e w1 ⟨p, hp, rfl, hs1, hb1⟩
  have hlt := hs1.lt
  go_wp2_with fail
  refine (l05Bent_any p 0 _ hs1 (by omega)).mono ?_
  rintro e w2 ⟨s, hs21, rfl, hs2, hc2⟩
  have T2 := hc2.below hb1 (by omega) hb1.size
  have z2 := hc2.size
  clear hc2 hs1
  go_wp2_with fail
  refine (one_any p _ 10 _ hs2 (by omega) (by omega)).mono ?_
  rintro e w3 (⟨rfl, hs3, hc3⟩ | ⟨rfl, hs3, hc3⟩)
  all_goals
    have T3 := hc3.below T2 (by omega) (by have := hb1.size; omega)
    have z3 := hc3.size
    clear hc3 hs2
  · go_wp2_with fail
    refine (among_any p _ _ 5 5 [-1, 0, 1000000, 1000001, 9223372036854775807] _ (hs3.later (ba (b0 _) _)) (by omega) rfl (by omega) (by omega) (Rd.own (own_lit w3 #[.int .i64 (-1), .int .i64 0, .int .i64 1000000, .int .i64 1000001, .int .i64 9223372036854775807] 5 rfl (Nat.le_refl _) (by omega) rfl)) (by intro gg oo hgg; injection hgg with hgg; injection hgg with hgg; have := hs3.lt; omega)).mono ?_
    rintro e w4 ⟨z, _, rfl, hs4, hc4⟩
    have T4 := hc4.below (bs T3 (ba (b0 w3) _)) (by omega) (by have := hb1.size; simp; omega)
    clear hc4
    go_wp2
    go_ret2
    exact ⟨s, z, hs21, rfl, T4⟩
  · go_wp2_with fail
    refine (pick_any p _ 500 _ hs3 (by omega) (by omega)).mono ?_
    rintro e w4 ⟨x, _, rfl, hs4, hc4⟩
    have T4 := hc4.below T3 (by omega) (by have := hb1.size; omega)
    clear hc4
    go_wp2
    go_ret2
    exact ⟨s, x, hs21, rfl, T4⟩
end Go.Proofs.Ytkmejkeanmjfbaa

/-! ### The draws of KeysFor and VerifyCard. -/
namespace Go.Proofs.Ytkmejkeanmjfbaa
open Go.RowKit

/-- A program card and two cards. -/
def TwoP (w : World) (e : Ending) (w' : World) : Prop := ∃ (s : ByteArray) (B : Option Addr) (n d : Nat) (xs : List Int) (C : Option Addr) (m f : Nat) (ys : List Int), s.size ≤ 21 ∧ e = .returned (.tuple #[.string s, .agg #[.slice B n d], .agg #[.slice C m f]]) ∧ xs.length = n ∧ n ≤ 40 ∧ ys.length = m ∧ m ≤ 40 ∧
  Ob w' w.heap.size w'.heap.size 2 1 (.slice B n d) n (ints xs) ∧ Ob w' w.heap.size w'.heap.size 2 1 (.slice C m f) m (ints ys) ∧ Below w.heap.size w w'
/-- A program card, two cards and keys. -/
def FouP (w : World) (e : Ending) (w' : World) : Prop := ∃ (s : ByteArray) (B : Option Addr) (n d : Nat) (xs : List Int) (C : Option Addr) (m f : Nat) (ys : List Int) (t : ByteArray), s.size ≤ 21 ∧ e = .returned (.tuple #[.string s, .agg #[.slice B n d], .agg #[.slice C m f], .string t]) ∧ xs.length = n ∧ n ≤ 40 ∧ ys.length = m ∧ m ≤ 40 ∧ t.size ≤ 22 ∧
  Ob w' w.heap.size w'.heap.size 2 1 (.slice B n d) n (ints xs) ∧ Ob w' w.heap.size w'.heap.size 2 1 (.slice C m f) m (ints ys) ∧ Below w.heap.size w w'
/-- Behind the card that is punched. -/
structure KcC (p K : Nat) (v wx : World) (s8 s9 : Value) (b : Nat) (Q : Option Addr) (m f lo hi : Nat) (R : List Int) (z : Int) : Prop where
  ptr : s8 = .pointer (some ⟨b, 0, none⟩)
  code : s9 = .int .i64 z
  some_ : z = 0 → 0 < m
  len : R.length = m
  m20 : m ≤ 20
  cell : wx.cell? ⟨b, 0, none⟩ = some (.slice Q m f)
  ob : Ob wx lo hi 2 1 (.slice Q m f) m (ints R)
  far : b < lo ∨ hi ≤ b
  lo : v.heap.size ≤ lo
  hi : hi ≤ wx.heap.size
  b0 : v.heap.size ≤ b
  b1 : b < wx.heap.size
  src : SrcK wx p K
  chg : Chg p (p + 1) v wx
theorem pp_some {s : ByteArray} {xs : List Int} {t : ByteArray} (h : ppC s [xs] t = 0) : 0 < (ppR s xs t).length := by
  have h1 : pgC s true [xs] = 0 := by
    by_cases e : pgC s true [xs] = 0
    · exact e
    · rw [ppC_1 e] at h; exact absurd h e
  unfold ppR
  rw [if_pos h, pchL_length]
  exact (progB_len (pg_ok1 h1).1).1

set_option maxRecDepth 20000 in
set_option maxHeartbeats 8000000 in
theorem DrawKeysFor_any (A : Option Addr) (n c : Nat) (bs0 : List UInt8) (w : World) (ha : Rd w w.heap.size 1 A n (byts bs0)) (hn : n ≤ 1048576) :
    Calls Try.prog 8 #[.slice A n c] w (TwoP w) := by
  obtain ⟨W, hW⟩ : ∃ W, W = (w.alloc (.cells #[.slice none 0 0] 26)).alloc (.cells #[.slice none 0 0] 26) := ⟨_, rfl⟩
  have T0 : Below w.heap.size w W := by rw [hW]; exact ba (ba (b0 w) _) _
  have c0 : W.cell? ⟨w.heap.size, 0, none⟩ = some (.slice none 0 0) := by rw [hW]; exact cell_alloc (cell_new rfl rfl) _
  have f0 : W.frozen? ⟨w.heap.size, 0, none⟩ = false := by rw [hW]; exact froz_alloc (froz_new rfl) (by simp) _
  have c1 : W.cell? ⟨w.heap.size + 1, 0, none⟩ = some (.slice none 0 0) := by rw [hW]; exact cell_new (by simp) rfl
  have f1 : W.frozen? ⟨w.heap.size + 1, 0, none⟩ = false := by rw [hW]; exact froz_new (by simp)
  have z0 : W.heap.size = w.heap.size + 2 := by rw [hW]; simp
  have haW := ha.up T0
  have HW := Lib.hid hW
  clear hW ha
  go_enter Try.func8, Try.ntmps8
  go_wp2_with fail
  rw [← HW.out]
  refine (l00From_any A n c bs0 _ haW hn).mono ?_
  rintro e w1 ⟨p, hp, rfl, hs1, hb1⟩
  replace c0 := cell_later hb1 c0
  replace f0 := froz_later hb1 f0 (by omega)
  replace c1 := cell_later hb1 c1
  replace f1 := froz_later hb1 f1 (by omega)
  have T1 := bs T0 hb1
  have z1 := hb1.size
  have hlt := hs1.lt
  clear hb1 haW
  go_wp2_with fail
  refine (l05Bent_any p 0 _ hs1 (by omega)).mono ?_
  rintro e w2 ⟨s, hs21, rfl, hs2, hc2⟩
  replace c0 := hc2.cell c0 (.inl (by omega))
  replace f0 := hc2.froz f0 (by omega) (.inl (by omega))
  replace c1 := hc2.cell c1 (.inl (by omega))
  replace f1 := hc2.froz f1 (by omega) (.inl (by omega))
  have T2 := hc2.below T1 (by omega) (by omega)
  have z2 := hc2.size
  clear hc2 hs1 T1
  go_wp2_with fail
  refine (l05Before_any p _ s _ hs2 (by omega) hs21).mono ?_
  rintro e w3 ⟨B, n, d, xs, rfl, hxl, hn40, hob, hs3, hc3⟩
  subst hxl
  replace c0 := hc3.cell c0 (.inl (by omega))
  replace f0 := hc3.froz f0 (by omega) (.inl (by omega))
  replace c1 := hc3.cell c1 (.inl (by omega))
  replace f1 := hc3.froz f1 (by omega) (.inl (by omega))
  have z3 := hc3.size
  have TB := ba (b0 w3) (.cells #[.slice B xs.length d] 26)
  have HT4 := Lib.hid (bs (hc3.below T2 (by omega) (by omega)) TB)
  have b4 : (w3.alloc (.cells #[.slice B xs.length d] 26)).cell? ⟨w3.heap.size, 0, none⟩ = some (.slice B xs.length d) := cell_new rfl rfl
  replace c0 := cell_later TB c0
  replace f0 := froz_later TB f0 (by omega)
  replace c1 := cell_later TB c1
  replace f1 := froz_later TB f1 (by omega)
  have hs4 := hs3.later TB
  have HO4 := Lib.hid (hob.bs TB)
  have z4 : w3.heap.size + 1 ≤ (w3.alloc (.cells #[.slice B xs.length d] 26)).heap.size := by simp
  clear hob hc3 hs2 hs3 TB T2
  obtain ⟨v4, hv4⟩ : ∃ v4, v4 = w3.alloc (.cells #[.slice B xs.length d] 26) := ⟨_, rfl⟩
  rw [← hv4] at c0 f0 c1 f1 b4 hs4 HO4 HT4 z4
  have HV := Lib.hid hv4
  clear hv4
  have HCP := Lib.hid (own_cap HO4.out.1).1
  have HPU := Lib.hid (fun (u : ByteArray) (hu : u.size ≤ 22) (X : World) (rd : Rd X X.heap.size 1 B xs.length (ints xs)) => spPunchByProgram_any s u B d xs X (by omega) rd (by omega) HCP.out (by omega))
  go_wp2_with fail
  rw [← HV.out]
  have B4 := Lib.hid b4
  have C0 := Lib.hid c0
  have F0 := Lib.hid f0
  have C1 := Lib.hid c1
  have F1 := Lib.hid f1
  go_cut [8, 9] (fun s8 s9 wx => ∃ b Q m f lo hi R z, KcC p (0 + 70 + 260 + 100) v4 wx s8 s9 b Q m f lo hi R z)
  case first =>
    go_region_held3 (fun w' => w'.cell? ⟨w3.heap.size, 0, none⟩ = some (.slice B xs.length d)) (first | exact b4 | exact cell_alloc b4 _ | exact set_far b4 (by omega) | go_keep)
      (first
        | (go_at_call 31; refine (l05Typed_any p (0 + 70 + 260) s _ ?_ (by omega) hs21).mono ?_; (first | exact hs4 | exact hs4.drew); rintro e w5 ⟨u, hu, rfl, hs5, hc5⟩; have cx : Chg p (p + 1) v4 w5 := (Chg.refl _ _ _).trans ⟨hc5.os, hc5.tape, hc5.output, hc5.size, hc5.block⟩; replace b4 := cx.cell B4.out (.inr (by omega)); have z5 := cx.size; have r5 := (HO4.out.chg cx (.inr (by omega))).rd)
        | (go_at_call 31; refine (l05Typed_any p (0 + 70 + 260) s _ ?_ (by omega) hs21).mono ?_; (first | exact hs4.later (ba (b0 _) _) | exact (hs4.later (ba (b0 _) _)).drew); rintro e w5 ⟨u, hu, rfl, hs5, hc5⟩; have hc6 : Chg p (p + 1) (v4.alloc (.cells #[.slice none 0 0] 26)) w5 := ⟨hc5.os, hc5.tape, hc5.output, hc5.size, hc5.block⟩; have cx : Chg p (p + 1) v4 w5 := ((Chg.refl _ _ _).then (ba (b0 v4) _) (Nat.le_refl _)).trans hc6; replace b4 := cx.cell B4.out (.inr (by omega)); have z5 := cx.size; have r5 := (HO4.out.chg cx (.inr (by omega))).rd; have bq : BoxAt w5 v4.heap.size := ⟨hc6.cell (BoxAt.new (w := v4) (e := 26)).1 (.inr (by omega)), hc6.froz (BoxAt.new (w := v4) (e := 26)).2 (by simp) (.inr (by omega))⟩; have kq := bq.1; have fq := bq.2; have z55 : v4.heap.size + 1 ≤ w5.heap.size := (by have := hc6.size; simpa using this))
        | (go_at_call 7; refine (HPU.out u hu _ ?_).mono ?_; (first | exact r5 | exact r5.drew); rintro e w6 ⟨Q, f, rfl, ho6, hb6⟩; have B6 : Below w5.heap.size w5 w6 := (by first | exact bs (b0 w5) hb6 | exact bs (b0 w5).drew hb6); replace b4 := cell_later B6 b4; have z6 := B6.size; (try have bp := bq.later B6); (try (replace kq := bp.1; replace fq := bp.2)))
        | (go_at_call 7; refine (HPU.out u hu _ ?_).mono ?_; (first | exact r5.a1 _ | exact (r5.a1 _).drew); rintro e w6 ⟨Q, f, rfl, ho6, hb6⟩; have B6 : Below w5.heap.size w5 w6 := (by first | exact bs (ba (b0 w5) _) hb6 | exact bs (ba (b0 w5) _).drew hb6); replace b4 := cell_later B6 b4; have z6 := B6.size; have br : BoxAt w6 w5.heap.size := (BoxAt.new (w := w5) (e := 26)).later ⟨hb6.os, hb6.tape, hb6.output, hb6.size, hb6.block⟩; have kr := br.1; have fr := br.2))
    all_goals go_wp2_with fail
    all_goals go_meet
    all_goals have z7 := World.block_lt_of_cell? _ _ b4
    · exact ⟨_, Q, _, f, _, _, _, _, rfl, rfl, pp_some, rfl, ppR_length _ _ _, cell_new rfl rfl, (Ob.of ho6).alloc _, .inr (Nat.le_refl _), z5, by simp, by omega, by simp, (hs5.later B6).later (ba (b0 _) _), (cx.then B6 (by omega)).then (ba (b0 _) _) (by omega)⟩
    · exact ⟨_, Q, _, f, _, _, _, _, rfl, rfl, pp_some, rfl, ppR_length _ _ _, World.cell?_setCell_same _ _ _ kr, (Ob.of ho6).below _ _ _ (by simp), .inl (by simp), by simp; omega, by simp, by omega, (by have := World.block_lt_of_cell? _ _ kr; simpa using this), (hs5.later B6).set _ _ (by omega), (cx.then B6 (by omega)).then (bset (Below.refl v4.heap.size _) _ _ _ (by omega)) (by omega)⟩
    · exact ⟨_, Q, _, f, _, _, _, _, rfl, rfl, pp_some, rfl, ppR_length _ _ _, World.cell?_setCell_same _ _ _ kq, (Ob.of ho6).below _ _ _ (by omega), .inl (by omega), by omega, by simp, by omega, (by have := World.block_lt_of_cell? _ _ kq; simpa using this), (hs5.later B6).set _ _ (by omega), (cx.then B6 (by omega)).then (bset (Below.refl v4.heap.size _) _ _ _ (Nat.le_refl _)) (by omega)⟩
  obtain ⟨w7, hw7⟩ : ∃ x : World, x = wc := ⟨_, rfl⟩
  subst hw7
  obtain ⟨b, Q, m, f, lo, hi, R, z, ⟨rfl, rfl, hsome, hR, hm20, kb, ob, far, hlo, hhi, hb0, hb1, hs7, hc7⟩⟩ := hcut
  replace c0 := hc7.cell c0 (.inl (by omega))
  replace f0 := hc7.froz f0 (by omega) (.inl (by omega))
  replace c1 := hc7.cell c1 (.inl (by omega))
  replace f1 := hc7.froz f1 (by omega) (.inl (by omega))
  have b7 := hc7.cell B4.out (.inr (by omega))
  have HT7 := Lib.hid (hc7.below HT4.out (by omega) (by omega))
  have HO7 := Lib.hid (HO4.out.chg hc7 (.inr (by omega)))
  have z7 := hc7.size
  have HR := Lib.hid hR
  have hwb : w3.heap.size < b := by omega
  clear hR hc7
  by_cases hz : z = 0
  · have n0 : (z != 0) = false := bne_f hz
    have hm0 := hsome hz
    obtain ⟨g, hQ, hg1, hg2⟩ := own_at ob.1 hm0
    subst hQ
    have hg3 : g < hi := ob.2 g rfl
    have hgb : ¬ g = b := by omega
    have hg3w : w3.heap.size < g := by omega
    clear hz
    go_wp2_with fail
    refine (one_any p _ 4 _ hs7 (by omega) (by omega)).mono ?_
    rintro e w8 (⟨rfl, hs8, hc8⟩ | ⟨rfl, hs8, hc8⟩)
    all_goals
      replace c0 := hc8.cell c0 (.inl (by omega))
      replace f0 := hc8.froz f0 (by omega) (.inl (by omega))
      replace c1 := hc8.cell c1 (.inl (by omega))
      replace f1 := hc8.froz f1 (by omega) (.inl (by omega))
      replace b7 := hc8.cell b7 (.inr (by omega))
      replace kb := hc8.cell kb (.inr (by omega))
      replace ob := ob.chg hc8 (.inr (by omega))
      have HT8 := Lib.hid (hc8.below HT7.out (by omega) (by omega))
      have HO8 := Lib.hid (HO7.out.chg hc8 (.inr (by omega)))
      have z8 := hc8.size
      clear hc8 hs7
    · have OB := Lib.hid ob
      have KB := Lib.hid kb
      have B8 := Lib.hid b7
      have C0 := Lib.hid c0
      have F0 := Lib.hid f0
      have C1 := Lib.hid c1
      have F1 := Lib.hid f1
      clear ob b7 c0 f0 c1 f1
      go_wp2_with fail
      go_region_held3 (fun w' => w'.cell? ⟨b, 0, none⟩ = some (.slice (some ⟨g, 0, none⟩) m f)) (first | exact kb | exact set_far kb hgb | go_keep)
        (first
          | (go_at_call 33; refine (pick_any p (0 + 70 + 260 + 100 + 2) _ _ ?_ (by omega) (by omega)).mono ?_; (first | exact hs8 | exact hs8.drew); rintro e w9 ⟨x, hx, rfl, hs9, hc9⟩; have hxm : x < m := (by omega); have cx : Chg p (p + 1) w8 w9 := ⟨hc9.os, hc9.tape, hc9.output, hc9.size, hc9.block⟩; replace kb := cx.cell KB.out (.inr (by omega)))
          | (go_at_call 33; refine (pick_any p (0 + 70 + 260 + 100 + 2 + 2) _ _ ?_ (by omega) (by omega)).mono ?_; (first | exact hs9 | exact hs9.drew); rintro e w10 ⟨y, hy, rfl, hs10, hc10⟩; have cy : Chg p (p + 1) w8 w10 := cx.trans ⟨hc10.os, hc10.tape, hc10.output, hc10.size, hc10.block⟩; replace kb := cy.cell KB.out (.inr (by omega)); have ob10 := OB.out.chg cy (.inr (by omega)); have d1 := own_cell ob10.1 x (by rw [ints_length, HR.out]; exact hxm); have e1 := ob10.1.frozenAt x))
      all_goals
        have z10 := cy.size
        have hgz := ob10.1.lt g rfl
        obtain ⟨v11, hv11⟩ : ∃ v11, v11 = w10.setCell ⟨g, x, none⟩ (.int .i64 (y : Int)) := ⟨_, rfl⟩
        have z11 : v11.heap.size = w10.heap.size := by rw [hv11]; simp
        have b9 : v11.cell? ⟨w3.heap.size, 0, none⟩ = some (.slice B xs.length d) := by rw [hv11]; exact set_far (cy.cell B8.out (.inr (by omega))) (by omega)
        have k9 : v11.cell? ⟨b, 0, none⟩ = some (.slice (some ⟨g, 0, none⟩) m f) := by rw [hv11]; exact set_far kb hgb
        have c9 : v11.cell? ⟨w.heap.size, 0, none⟩ = some (.slice none 0 0) := by rw [hv11]; exact set_far (cy.cell C0.out (.inl (by omega))) (by omega)
        have c9' : v11.cell? ⟨w.heap.size + 1, 0, none⟩ = some (.slice none 0 0) := by rw [hv11]; exact set_far (cy.cell C1.out (.inl (by omega))) (by omega)
        have f9 : v11.frozen? ⟨w.heap.size, 0, none⟩ = false := by rw [hv11]; exact set_far_f (cy.froz F0.out (by omega) (.inl (by omega))) (by omega)
        have f9' : v11.frozen? ⟨w.heap.size + 1, 0, none⟩ = false := by rw [hv11]; exact set_far_f (cy.froz F1.out (by omega) (.inl (by omega))) (by omega)
        have HT9 := Lib.hid (show Below w.heap.size w v11 by rw [hv11]; exact bset (cy.below HT8.out (by omega) (by omega)) g x _ (by omega))
        have HO9 := Lib.hid (show Ob v11 w2.heap.size w3.heap.size 2 1 (.slice B xs.length d) xs.length (ints xs) by rw [hv11]; exact (HO8.out.chg cy (.inr (by omega))).chg ((Chg.refl g (g + 1) w10).set x _ (Nat.le_refl _) (by omega)) (.inl (by omega)))
        have OB9 := Lib.hid (show Ob v11 lo hi 2 1 (.slice (some ⟨g, 0, none⟩) m f) m (ints (R.set x (y : Int))) by rw [hv11]; exact ⟨by rw [← ints_set']; exact ownsRow_set ob10.1 x _, ob10.2⟩)
        have HV11 := Lib.hid hv11
        have HYL := Lib.hid (show (R.set x (y : Int)).length = m by rw [List.length_set, HR.out])
        clear hv11 ob10 d1 e1 cy cx hc9 hc10 hs9 hs10 kb hs8
        go_wp2_with fail
        rw [← HV11.out]
        go_region_held3 (fun w' => w'.cell? ⟨w3.heap.size, 0, none⟩ = some (.slice B xs.length d) ∧ w'.cell? ⟨b, 0, none⟩ = some (.slice (some ⟨g, 0, none⟩) m f)) (first | exact ⟨b9, k9⟩ | exact ⟨set_far b9 (by omega), set_far k9 (by omega)⟩ | exact ⟨set_far (set_far b9 (by omega)) (by omega), set_far (set_far k9 (by omega)) (by omega)⟩ | go_keep) (fail)
        all_goals
          go_wp2
          refine bodyPost_ret (v := .tuple #[.string s, .agg #[.slice B xs.length d], .agg #[.slice (some ⟨g, 0, none⟩) m f]]) (by simp [results, Try.results8, go_sem, *]) rfl ⟨s, B, _, d, xs, _, m, f, R.set x (y : Int), hs21, rfl, rfl, hn40, HYL.out, by omega, ?_, ?_, ?_⟩
          · exact ((HO9.out.below _ _ _ (by omega)).below _ _ _ (by omega)).mono (by omega) (by simp; omega)
          · exact ((OB9.out.below _ _ _ (by omega)).below _ _ _ (by omega)).mono (by omega) (by simp; omega)
          · first | exact (bset (bset HT9.out _ _ _ (Nat.le_refl _)) _ _ _ (Nat.le_succ _)).drew | exact bset (bset HT9.out _ _ _ (Nat.le_refl _)) _ _ _ (Nat.le_succ _)
    · have HT9 := HT8
      have HO9 := HO8
      have OB9 := Lib.hid ob
      have b9 := b7
      have k9 := kb
      have z9 := World.block_lt_of_cell? _ _ kb
      clear ob b7 kb hs8
      go_wp2_with fail
      go_region_held3 (fun w' => w'.cell? ⟨w3.heap.size, 0, none⟩ = some (.slice B xs.length d) ∧ w'.cell? ⟨b, 0, none⟩ = some (.slice (some ⟨g, 0, none⟩) m f)) (first | exact ⟨b9, k9⟩ | exact ⟨set_far b9 (by omega), set_far k9 (by omega)⟩ | exact ⟨set_far (set_far b9 (by omega)) (by omega), set_far (set_far k9 (by omega)) (by omega)⟩ | go_keep) (fail)
      all_goals
        go_wp2
        refine bodyPost_ret (v := .tuple #[.string s, .agg #[.slice B xs.length d], .agg #[.slice (some ⟨g, 0, none⟩) m f]]) (by simp [results, Try.results8, go_sem, *]) rfl ⟨s, B, _, d, xs, _, m, f, R, hs21, rfl, rfl, hn40, HR.out, by omega, ?_, ?_, ?_⟩
        · exact ((HO9.out.below _ _ _ (by omega)).below _ _ _ (by omega)).mono (by omega) (by simp; omega)
        · exact ((OB9.out.below _ _ _ (by omega)).below _ _ _ (by omega)).mono (by omega) (by simp; omega)
        · first | exact (bset (bset HT9.out _ _ _ (Nat.le_refl _)) _ _ _ (Nat.le_succ _)).drew | exact bset (bset HT9.out _ _ _ (Nat.le_refl _)) _ _ _ (Nat.le_succ _)
  · have n0 : (z != 0) = true := bne_t hz
    have B7 := Lib.hid b7
    have C0 := Lib.hid c0
    have F0 := Lib.hid f0
    have C1 := Lib.hid c1
    have F1 := Lib.hid f1
    clear hz
    go_wp2_with fail
    go_region_held3 (fun w' => w'.cell? ⟨w3.heap.size, 0, none⟩ = some (.slice B xs.length d)) (first | exact b7 | exact set_far b7 (by omega) | exact set_far (set_far b7 (by omega)) (by omega) | go_keep)
      ((go_at_call 30; refine (l05Before_any p (0 + 70 + 260 + 100) s _ ?_ (by omega) hs21).mono ?_; (first | exact hs7 | exact hs7.drew); rintro e w8 ⟨C, m', f', ys, rfl, hyl, hm40, hob8, hs8, hc8⟩; have cx : Chg p (p + 1) w7 w8 := ⟨hc8.os, hc8.tape, hc8.output, hc8.size, hc8.block⟩; replace b7 := cx.cell B7.out (.inr (by omega)); replace c0 := cx.cell C0.out (.inl (by omega)); replace f0 := cx.froz F0.out (by omega) (.inl (by omega)); replace c1 := cx.cell C1.out (.inl (by omega)); replace f1 := cx.froz F1.out (by omega) (.inl (by omega))))
    all_goals
      have HT8 := Lib.hid (cx.below HT7.out (by omega) (by omega))
      have HO8 := Lib.hid (HO7.out.chg cx (.inr (by omega)))
      have HY := Lib.hid hyl
      have hob8' : Ob w8 w7.heap.size w8.heap.size 2 1 (.slice C m' f') m' (ints ys) := hob8
      have HOB := Lib.hid hob8'
      have z8 := cx.size
      clear hyl hob8 hob8' hc8 cx
      go_wp2
      refine bodyPost_ret (v := .tuple #[.string s, .agg #[.slice B xs.length d], .agg #[.slice C m' f']]) (by simp [results, Try.results8, go_sem, *]) rfl ⟨s, B, _, d, xs, C, m', f', ys, hs21, rfl, rfl, hn40, HY.out, hm40, ?_, ?_, ?_⟩
      · exact ((HO8.out.below _ _ _ (by omega)).below _ _ _ (by omega)).mono (by omega) (by simp; omega)
      · exact ((HOB.out.below _ _ _ (by omega)).below _ _ _ (by omega)).mono (by omega) (by simp)
      · exact bset (bset HT8.out _ _ _ (Nat.le_refl _)) _ _ _ (by omega)

set_option maxRecDepth 20000 in
set_option maxHeartbeats 8000000 in
theorem DrawVerifyCard_any (A : Option Addr) (n c : Nat) (bs0 : List UInt8) (w : World) (ha : Rd w w.heap.size 1 A n (byts bs0)) (hn : n ≤ 1048576) :
    Calls Try.prog 11 #[.slice A n c] w (FouP w) := by
  obtain ⟨W, hW⟩ : ∃ W, W = (w.alloc (.cells #[.slice none 0 0] 26)).alloc (.cells #[.slice none 0 0] 26) := ⟨_, rfl⟩
  have T0 : Below w.heap.size w W := by rw [hW]; exact ba (ba (b0 w) _) _
  have c0 : W.cell? ⟨w.heap.size, 0, none⟩ = some (.slice none 0 0) := by rw [hW]; exact cell_alloc (cell_new rfl rfl) _
  have f0 : W.frozen? ⟨w.heap.size, 0, none⟩ = false := by rw [hW]; exact froz_alloc (froz_new rfl) (by simp) _
  have c1 : W.cell? ⟨w.heap.size + 1, 0, none⟩ = some (.slice none 0 0) := by rw [hW]; exact cell_new (by simp) rfl
  have f1 : W.frozen? ⟨w.heap.size + 1, 0, none⟩ = false := by rw [hW]; exact froz_new (by simp)
  have z0 : W.heap.size = w.heap.size + 2 := by rw [hW]; simp
  have haW := ha.up T0
  have HW := Lib.hid hW
  clear hW ha
  go_enter Try.func11, Try.ntmps11
  go_wp2_with fail
  rw [← HW.out]
  refine (l00From_any A n c bs0 _ haW hn).mono ?_
  rintro e w1 ⟨p, hp, rfl, hs1, hb1⟩
  replace c0 := cell_later hb1 c0
  replace f0 := froz_later hb1 f0 (by omega)
  replace c1 := cell_later hb1 c1
  replace f1 := froz_later hb1 f1 (by omega)
  have T1 := bs T0 hb1
  have z1 := hb1.size
  have hlt := hs1.lt
  clear hb1 haW
  go_wp2_with fail
  refine (l05Bent_any p 0 _ hs1 (by omega)).mono ?_
  rintro e w2 ⟨s, hs21, rfl, hs2, hc2⟩
  replace c0 := hc2.cell c0 (.inl (by omega))
  replace f0 := hc2.froz f0 (by omega) (.inl (by omega))
  replace c1 := hc2.cell c1 (.inl (by omega))
  replace f1 := hc2.froz f1 (by omega) (.inl (by omega))
  have T2 := hc2.below T1 (by omega) (by omega)
  have z2 := hc2.size
  clear hc2 hs1 T1
  go_wp2_with fail
  refine (l05Before_any p _ s _ hs2 (by omega) hs21).mono ?_
  rintro e w3 ⟨B, n, d, xs, rfl, hxl, hn40, hob, hs3, hc3⟩
  subst hxl
  replace c0 := hc3.cell c0 (.inl (by omega))
  replace f0 := hc3.froz f0 (by omega) (.inl (by omega))
  replace c1 := hc3.cell c1 (.inl (by omega))
  replace f1 := hc3.froz f1 (by omega) (.inl (by omega))
  have z3 := hc3.size
  have TB := ba (b0 w3) (.cells #[.slice B xs.length d] 26)
  have HT4 := Lib.hid (bs (hc3.below T2 (by omega) (by omega)) TB)
  have b4 : (w3.alloc (.cells #[.slice B xs.length d] 26)).cell? ⟨w3.heap.size, 0, none⟩ = some (.slice B xs.length d) := cell_new rfl rfl
  replace c0 := cell_later TB c0
  replace f0 := froz_later TB f0 (by omega)
  replace c1 := cell_later TB c1
  replace f1 := froz_later TB f1 (by omega)
  have hs4 := hs3.later TB
  have HO4 := Lib.hid (hob.bs TB)
  have z4 : w3.heap.size + 1 ≤ (w3.alloc (.cells #[.slice B xs.length d] 26)).heap.size := by simp
  clear hob hc3 hs2 hs3 TB T2
  obtain ⟨v4, hv4⟩ : ∃ v4, v4 = w3.alloc (.cells #[.slice B xs.length d] 26) := ⟨_, rfl⟩
  rw [← hv4] at c0 f0 c1 f1 b4 hs4 HO4 HT4 z4
  have HV := Lib.hid hv4
  clear hv4
  have HCP := Lib.hid (own_cap HO4.out.1).1
  have HPU := Lib.hid (fun (u : ByteArray) (hu : u.size ≤ 22) (X : World) (rd : Rd X X.heap.size 1 B xs.length (ints xs)) => spPunchByProgram_any s u B d xs X (by omega) rd (by omega) HCP.out (by omega))
  have B4 := Lib.hid b4
  go_wp2_with fail
  rw [← HV.out]
  refine (l05Typed_any p (0 + 70 + 260) s _ hs4 (by omega) hs21).mono ?_
  rintro e w5 ⟨u, hu, rfl, hs5, hc5⟩
  replace b4 := hc5.cell b4 (.inr (by omega))
  have r5 := (HO4.out.chg hc5 (.inr (by omega))).rd
  have z5 := hc5.size
  go_wp2_with fail
  refine (HPU.out u hu _ r5).mono ?_
  rintro e w6 ⟨Q, f, rfl, ho6, hb6⟩
  obtain ⟨R, hRR⟩ : ∃ R, R = ppR s xs u := ⟨_, rfl⟩
  obtain ⟨z, hzz⟩ : ∃ z, z = ppC s [xs] u := ⟨_, rfl⟩
  have hsome' : z = 0 → 0 < R.length := fun h => by rw [hRR]; exact pp_some (by rw [← hzz]; exact h)
  have hm20' : R.length ≤ 20 := by rw [hRR]; exact ppR_length _ _ _
  rw [← hRR] at ho6
  rw [← hRR, ← hzz]
  obtain ⟨m, hR⟩ : ∃ m, R.length = m := ⟨_, rfl⟩
  rw [hR] at ho6 hsome' hm20' ⊢
  have hsome := hsome'
  have hm20 := hm20'
  obtain ⟨w7, hv7⟩ : ∃ w7, w7 = w6.alloc (.cells #[.slice Q m f] 26) := ⟨_, rfl⟩
  have hlo := z5
  have z6 := hb6.size
  have hhi : w6.heap.size ≤ w7.heap.size := by rw [hv7]; simp
  have hb1 : w6.heap.size < w7.heap.size := by rw [hv7]; simp
  have hb0 : v4.heap.size ≤ w6.heap.size := by omega
  have kb : w7.cell? ⟨w6.heap.size, 0, none⟩ = some (.slice Q m f) := by rw [hv7]; exact cell_new rfl rfl
  have ob : Ob w7 w5.heap.size w6.heap.size 2 1 (.slice Q m f) m (ints R) := by rw [hv7]; exact (Ob.of ho6).alloc _
  have hs7 : SrcK w7 p (0 + 70 + 260 + 100) := by rw [hv7]; exact (hs5.later hb6).later (ba (b0 _) _)
  have hc7 : Chg p (p + 1) v4 w7 := by rw [hv7]; exact (hc5.then hb6 (by omega)).then (ba (b0 _) _) (by omega)
  have HV7 := Lib.hid hv7
  have hfar : w6.heap.size ≤ w6.heap.size := Nat.le_refl _
  clear hv7 hRR hzz hsome' hm20' ho6 hb6 hs5 hc5 b4 r5
  replace c0 := hc7.cell c0 (.inl (by omega))
  replace f0 := hc7.froz f0 (by omega) (.inl (by omega))
  replace c1 := hc7.cell c1 (.inl (by omega))
  replace f1 := hc7.froz f1 (by omega) (.inl (by omega))
  have b7 := hc7.cell B4.out (.inr (by omega))
  have HT7 := Lib.hid (hc7.below HT4.out (by omega) (by omega))
  have HO7 := Lib.hid (HO4.out.chg hc7 (.inr (by omega)))
  have z7 := hc7.size
  have HR := Lib.hid hR
  have hwb : w3.heap.size < w6.heap.size := by omega
  clear hR hc7
  by_cases hz : z = 0
  · have n0 : (z != 0) = false := bne_f hz
    have hm0 := hsome hz
    obtain ⟨g, hQ, hg1, hg2⟩ := own_at ob.1 hm0
    subst hQ
    have hg3 : g < w6.heap.size := ob.2 g rfl
    have hgb : ¬ g = w6.heap.size := by omega
    have hg3w : w3.heap.size < g := by omega
    clear hz
    go_wp2_with fail
    rw [← HV7.out]
    refine (one_any p _ 2 _ hs7 (by omega) (by omega)).mono ?_
    rintro e w8 (⟨rfl, hs8, hc8⟩ | ⟨rfl, hs8, hc8⟩)
    all_goals
      replace c0 := hc8.cell c0 (.inl (by omega))
      replace f0 := hc8.froz f0 (by omega) (.inl (by omega))
      replace c1 := hc8.cell c1 (.inl (by omega))
      replace f1 := hc8.froz f1 (by omega) (.inl (by omega))
      replace b7 := hc8.cell b7 (.inr (by omega))
      replace kb := hc8.cell kb (.inr (by omega))
      replace ob := ob.chg hc8 (.inr (by omega))
      have HT8 := Lib.hid (hc8.below HT7.out (by omega) (by omega))
      have HO8 := Lib.hid (HO7.out.chg hc8 (.inr (by omega)))
      have z8 := hc8.size
      clear hc8 hs7
    · have OB := Lib.hid ob
      have KB := Lib.hid kb
      have B8 := Lib.hid b7
      have C0 := Lib.hid c0
      have F0 := Lib.hid f0
      have C1 := Lib.hid c1
      have F1 := Lib.hid f1
      clear ob b7 c0 f0 c1 f1
      go_wp2_with fail
      go_region_held3 (fun w' => w'.cell? ⟨w6.heap.size, 0, none⟩ = some (.slice (some ⟨g, 0, none⟩) m f)) (first | exact kb | exact set_far kb hgb | go_keep)
        (first
          | (go_at_call 33; refine (pick_any p (0 + 70 + 260 + 100 + 2) _ _ ?_ (by omega) (by omega)).mono ?_; (first | exact hs8 | exact hs8.drew); rintro e w9 ⟨x, hx, rfl, hs9, hc9⟩; have hxm : x < m := (by omega); have cx : Chg p (p + 1) w8 w9 := ⟨hc9.os, hc9.tape, hc9.output, hc9.size, hc9.block⟩; replace kb := cx.cell KB.out (.inr (by omega)))
          | (go_at_call 33; refine (pick_any p (0 + 70 + 260 + 100 + 2 + 2) _ _ ?_ (by omega) (by omega)).mono ?_; (first | exact hs9 | exact hs9.drew); rintro e w10 ⟨y, hy, rfl, hs10, hc10⟩; have cy : Chg p (p + 1) w8 w10 := cx.trans ⟨hc10.os, hc10.tape, hc10.output, hc10.size, hc10.block⟩; replace kb := cy.cell KB.out (.inr (by omega)); have ob10 := OB.out.chg cy (.inr (by omega)); have d1 := own_cell ob10.1 x (by rw [ints_length, HR.out]; exact hxm); have e1 := ob10.1.frozenAt x))
      all_goals
        have z10 := cy.size
        have hgz := ob10.1.lt g rfl
        obtain ⟨v11, hv11⟩ : ∃ v11, v11 = w10.setCell ⟨g, x, none⟩ (.int .i64 (y : Int)) := ⟨_, rfl⟩
        have z11 : v11.heap.size = w10.heap.size := by rw [hv11]; simp
        have b9 : v11.cell? ⟨w3.heap.size, 0, none⟩ = some (.slice B xs.length d) := by rw [hv11]; exact set_far (cy.cell B8.out (.inr (by omega))) (by omega)
        have k9 : v11.cell? ⟨w6.heap.size, 0, none⟩ = some (.slice (some ⟨g, 0, none⟩) m f) := by rw [hv11]; exact set_far kb hgb
        have c9 : v11.cell? ⟨w.heap.size, 0, none⟩ = some (.slice none 0 0) := by rw [hv11]; exact set_far (cy.cell C0.out (.inl (by omega))) (by omega)
        have c9' : v11.cell? ⟨w.heap.size + 1, 0, none⟩ = some (.slice none 0 0) := by rw [hv11]; exact set_far (cy.cell C1.out (.inl (by omega))) (by omega)
        have f9 : v11.frozen? ⟨w.heap.size, 0, none⟩ = false := by rw [hv11]; exact set_far_f (cy.froz F0.out (by omega) (.inl (by omega))) (by omega)
        have f9' : v11.frozen? ⟨w.heap.size + 1, 0, none⟩ = false := by rw [hv11]; exact set_far_f (cy.froz F1.out (by omega) (.inl (by omega))) (by omega)
        have HT9 := Lib.hid (show Below w.heap.size w v11 by rw [hv11]; exact bset (cy.below HT8.out (by omega) (by omega)) g x _ (by omega))
        have HO9 := Lib.hid (show Ob v11 w2.heap.size w3.heap.size 2 1 (.slice B xs.length d) xs.length (ints xs) by rw [hv11]; exact (HO8.out.chg cy (.inr (by omega))).chg ((Chg.refl g (g + 1) w10).set x _ (Nat.le_refl _) (by omega)) (.inl (by omega)))
        have OB9 := Lib.hid (show Ob v11 w5.heap.size w6.heap.size 2 1 (.slice (some ⟨g, 0, none⟩) m f) m (ints (R.set x (y : Int))) by rw [hv11]; exact ⟨by rw [← ints_set']; exact ownsRow_set ob10.1 x _, ob10.2⟩)
        have HV11 := Lib.hid hv11
        have HYL := Lib.hid (show (R.set x (y : Int)).length = m by rw [List.length_set, HR.out])
        clear hv11 ob10 d1 e1 cy cx hc9 hc10 hs9 hs10 kb hs8
        go_wp2_with fail
        rw [← HV11.out]
        go_region_held3 (fun w' => w'.cell? ⟨w3.heap.size, 0, none⟩ = some (.slice B xs.length d) ∧ w'.cell? ⟨w6.heap.size, 0, none⟩ = some (.slice (some ⟨g, 0, none⟩) m f)) (first | exact ⟨b9, k9⟩ | exact ⟨set_far b9 (by omega), set_far k9 (by omega)⟩ | exact ⟨set_far (set_far b9 (by omega)) (by omega), set_far (set_far k9 (by omega)) (by omega)⟩ | go_keep) (fail)
        all_goals
          go_wp2
          refine bodyPost_ret (v := .tuple #[.string s, .agg #[.slice B xs.length d], .agg #[.slice (some ⟨g, 0, none⟩) m f], .string u]) (by simp [results, Try.results11, go_sem, *]) rfl ⟨s, B, _, d, xs, _, m, f, R.set x (y : Int), u, hs21, rfl, rfl, hn40, HYL.out, by omega, hu, ?_, ?_, ?_⟩
          · exact ((HO9.out.below _ _ _ (by omega)).below _ _ _ (by omega)).mono (by omega) (by simp; omega)
          · exact ((OB9.out.below _ _ _ (by omega)).below _ _ _ (by omega)).mono (by omega) (by simp; omega)
          · first | exact (bset (bset HT9.out _ _ _ (Nat.le_refl _)) _ _ _ (Nat.le_succ _)).drew | exact bset (bset HT9.out _ _ _ (Nat.le_refl _)) _ _ _ (Nat.le_succ _)
    · have HT9 := HT8
      have HO9 := HO8
      have OB9 := Lib.hid ob
      have b9 := b7
      have k9 := kb
      have z9 := World.block_lt_of_cell? _ _ kb
      clear ob b7 kb hs8
      go_wp2_with fail
      go_region_held3 (fun w' => w'.cell? ⟨w3.heap.size, 0, none⟩ = some (.slice B xs.length d) ∧ w'.cell? ⟨w6.heap.size, 0, none⟩ = some (.slice (some ⟨g, 0, none⟩) m f)) (first | exact ⟨b9, k9⟩ | exact ⟨set_far b9 (by omega), set_far k9 (by omega)⟩ | exact ⟨set_far (set_far b9 (by omega)) (by omega), set_far (set_far k9 (by omega)) (by omega)⟩ | go_keep) (fail)
      all_goals
        go_wp2
        refine bodyPost_ret (v := .tuple #[.string s, .agg #[.slice B xs.length d], .agg #[.slice (some ⟨g, 0, none⟩) m f], .string u]) (by simp [results, Try.results11, go_sem, *]) rfl ⟨s, B, _, d, xs, _, m, f, R, u, hs21, rfl, rfl, hn40, HR.out, by omega, hu, ?_, ?_, ?_⟩
        · exact ((HO9.out.below _ _ _ (by omega)).below _ _ _ (by omega)).mono (by omega) (by simp; omega)
        · exact ((OB9.out.below _ _ _ (by omega)).below _ _ _ (by omega)).mono (by omega) (by simp; omega)
        · first | exact (bset (bset HT9.out _ _ _ (Nat.le_refl _)) _ _ _ (Nat.le_succ _)).drew | exact bset (bset HT9.out _ _ _ (Nat.le_refl _)) _ _ _ (Nat.le_succ _)
  · have n0 : (z != 0) = true := bne_t hz
    have B7 := Lib.hid b7
    have C0 := Lib.hid c0
    have F0 := Lib.hid f0
    have C1 := Lib.hid c1
    have F1 := Lib.hid f1
    clear hz
    go_wp2_with fail
    rw [← HV7.out]
    go_region_held3 (fun w' => w'.cell? ⟨w3.heap.size, 0, none⟩ = some (.slice B xs.length d)) (first | exact b7 | exact set_far b7 (by omega) | exact set_far (set_far b7 (by omega)) (by omega) | go_keep)
      ((go_at_call 30; refine (l05Before_any p (0 + 70 + 260 + 100) s _ ?_ (by omega) hs21).mono ?_; (first | exact hs7 | exact hs7.drew); rintro e w8 ⟨C, m', f', ys, rfl, hyl, hm40, hob8, hs8, hc8⟩; have cx : Chg p (p + 1) w7 w8 := ⟨hc8.os, hc8.tape, hc8.output, hc8.size, hc8.block⟩; replace b7 := cx.cell B7.out (.inr (by omega)); replace c0 := cx.cell C0.out (.inl (by omega)); replace f0 := cx.froz F0.out (by omega) (.inl (by omega)); replace c1 := cx.cell C1.out (.inl (by omega)); replace f1 := cx.froz F1.out (by omega) (.inl (by omega))))
    all_goals
      have HT8 := Lib.hid (cx.below HT7.out (by omega) (by omega))
      have HO8 := Lib.hid (HO7.out.chg cx (.inr (by omega)))
      have HY := Lib.hid hyl
      have hob8' : Ob w8 w7.heap.size w8.heap.size 2 1 (.slice C m' f') m' (ints ys) := hob8
      have HOB := Lib.hid hob8'
      have z8 := cx.size
      clear hyl hob8 hob8' hc8 cx
      go_wp2
      refine bodyPost_ret (v := .tuple #[.string s, .agg #[.slice B xs.length d], .agg #[.slice C m' f'], .string u]) (by simp [results, Try.results11, go_sem, *]) rfl ⟨s, B, _, d, xs, C, m', f', ys, u, hs21, rfl, rfl, hn40, HY.out, hm40, hu, ?_, ?_, ?_⟩
      · exact ((HO8.out.below _ _ _ (by omega)).below _ _ _ (by omega)).mono (by omega) (by simp; omega)
      · exact ((HOB.out.below _ _ _ (by omega)).below _ _ _ (by omega)).mono (by omega) (by simp)
      · exact bset (bset HT8.out _ _ _ (Nat.le_refl _)) _ _ _ (by omega)
end Go.Proofs.Ytkmejkeanmjfbaa
