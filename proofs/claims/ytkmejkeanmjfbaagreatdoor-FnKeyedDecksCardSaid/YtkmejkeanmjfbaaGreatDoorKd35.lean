/- The draws of keys for some cards and of a punching of cards. -/
import Derived.Test.YtkmejkeanmjfbaaGreatDoorKd34
import Derived.Test.YtkmejkeanmjfbaaGreatDoorKd30
/-! ### PaDraw -/
namespace Go.Proofs.YtkmejkeanmjfbaaGreatDoor
open Go.RowKit

theorem strv_snoc (ts : List ByteArray) (t : ByteArray) : strv (ts ++ [t]) = strv ts ++ [.string t] := by simp [strv]
theorem info_strD : (Tryz.prog.info? 9).map (fun i => (i.zero, i.size, i.bytes)) = some (some (.string ⟨#[]⟩), 1, 16) := by kernel_rfl
def MnR (p K : Nat) (w wr : World) (o q : Value) : Prop := ∃ (j : Nat) (D : Option Addr) (c : Nat) (ts : List ByteArray), q = .int .i64 j ∧ o = .slice D ts.length c ∧ ts.length + j ≤ 5 ∧ (∀ t ∈ ts, t.size ≤ 22) ∧
  wr.ownsRow w.heap.size 9 1 (.slice D ts.length c) ts.length (strv ts) ∧ Chg p (p + 1) w wr ∧ SrcK wr p (K + 2 + 100 * (5 - j))
def ManP (p K : Nat) (w : World) (e : Ending) (w' : World) : Prop := ∃ (D : Option Addr) (c : Nat) (ts : List ByteArray), ts.length ≤ 5 ∧ (∀ t ∈ ts, t.size ≤ 22) ∧ e = .returned (.slice D ts.length c) ∧
  Ob w' w.heap.size w'.heap.size 9 1 (.slice D ts.length c) ts.length (strv ts) ∧ SrcK w' p (K + 600) ∧ Chg p (p + 1) w w'

set_option maxRecDepth 20000 in
set_option maxHeartbeats 8000000 in
theorem l05Many_any (p K : Nat) (s : ByteArray) (w : World) (h : SrcK w p K) (hK : K + 1000 < 700000) (hs21 : s.size ≤ 21) :
    Calls Tryz.prog 30 #[.pointer (some ⟨p, 0, none⟩), .string s] w (ManP p K w) := by
  obtain ⟨j0, hj, hj0, hj1, hj2⟩ := info_parts info_strD
  have hlt := h.lt
  have TA := ba (b0 w) (.cells #[] 9)
  have hA := h.later TA
  go_enter Tryz.func30, Tryz.ntmps30
  go_wp2_with fail
  refine (pick_any p K 6 _ hA (by omega) (by omega)).mono ?_
  rintro e w1 ⟨x, hx, rfl, hs1, hc1⟩
  have hx5 : x ≤ 5 := by omega
  have HC1 := Lib.hid (((Chg.refl p (p + 1) w).then TA (Nat.le_refl _)).trans hc1)
  have hrow : (w.alloc (.cells #[] 9)).ownsRow w.heap.size 9 1 (.slice (some ⟨w.heap.size, 0, none⟩) 0 0) 0 [] := own_lit w #[] 0 rfl (Nat.le_refl _) (by omega) rfl
  have HO1 := Lib.hid (own_chg hrow hc1 (by omega))
  have HS1 := Lib.hid (hs1.more (show K + 2 ≤ K + 2 + 100 * (5 - x) by omega))
  clear hc1 hs1 hrow TA hA hx
  go_wp2
  go_loopw [5, 6] (fun o q wr => MnR p K w wr o q) (fun _ q _ => (intOf q).toNat)
  case atStart => exact ⟨x, some ⟨w.heap.size, 0, none⟩, 0, [], rfl, rfl, by simpa using hx5, by simp, HO1.out, HC1.out, HS1.out⟩
  case round =>
    obtain ⟨wo, rfl⟩ : ∃ wo : World, wo = wr := ⟨_, rfl⟩
    obtain ⟨j', D, c, ts, rfl, rfl, hgj, h22, hown, hch, hsr⟩ := hrel
    have H22 := Lib.hid h22
    have HCH := Lib.hid hch
    have hzz := hch.size
    clear h22 hch
    by_cases hj : 0 < j'
    · obtain ⟨j, rfl⟩ : ∃ j, j' = j + 1 := ⟨j' - 1, by omega⟩
      have i1 : (0 : Int) < ((j + 1 : Nat) : Int) := by omega
      go_wp2_with fail
      refine (l05Typed_any p _ s _ hsr (by omega) hs21).mono ?_
      rintro e w3 ⟨t, ht, rfl, hs3, hc3⟩
      have hown3 := own_chg hown hc3 (by omega)
      have HC3 := Lib.hid (HCH.out.trans hc3)
      have hbase := HC3.out.size
      clear hown hc3 hsr
      go_wp2_with (at_builtin; refine wpList_ap rfl (.tmp 14) (.tmp 18) 27 rfl w.heap.size 9 j0 _ 1 16 Tryz.underlying27 (by assumption) hj0 hj1 hj2 rfl (by omega) D ts.length c (strv ts) rfl w3 hown3 1 #[.string t] w3.heap.size rfl rfl rfl (by intro v hv; simp at hv; subst hv; rfl) (by omega) (by omega) (by omega) hbase ?_; intro g cap w6 hown6 hb6 hg6 _ _)
      refine ⟨⟨j, some ⟨g, 0, none⟩, cap, ts ++ [t], by go_num, by rw [List.length_append]; rfl, by rw [List.length_append, List.length_singleton]; omega, fun u hu => ?_, by rw [strv_snoc, List.length_append]; exact hown6, HC3.out.then hb6 (Nat.le_refl _), (hs3.below hb6 hlt).more (by omega)⟩, by (simp [intOf]; try omega)⟩
      rcases List.mem_append.1 hu with hu | hu
      · exact H22.out u hu
      · rw [List.mem_singleton] at hu; subst hu; exact ht
    · obtain rfl : j' = 0 := by omega
      have HOW := Lib.hid hown
      have HSR := Lib.hid hsr
      clear hown hsr
      go_wp2
      go_ret
      exact ⟨D, c, ts, by omega, H22.out, rfl, Ob.of HOW.out, HSR.out.more (by omega), HCH.out⟩
/-- A program card, a card and keys for some cards. -/
def DpaP (w : World) (e : Ending) (w' : World) : Prop := ∃ (s : ByteArray) (B : Option Addr) (n d : Nat) (xs : List Int) (D : Option Addr) (ck : Nat) (ts : List ByteArray), s.size ≤ 21 ∧ e = .returned (.tuple #[.string s, .agg #[.slice B n d], .slice D ts.length ck]) ∧ xs.length = n ∧ n ≤ 40 ∧ ts.length ≤ 41 ∧ (∀ t ∈ ts, t.size ≤ 22) ∧
  Ob w' w.heap.size w'.heap.size 2 1 (.slice B n d) n (ints xs) ∧ Ob w' w.heap.size w'.heap.size 9 1 (.slice D ts.length ck) ts.length (strv ts) ∧ Below w.heap.size w w'
theorem chg_of {B : Nat} {a b : World} (h : Below B a b) : Chg B a.heap.size a b := ⟨h.os, h.tape, h.output, h.size, fun k hk ho => h.block k (by omega)⟩
def DlR (N : Nat) (v8 wr : World) (o q : Value) : Prop := ∃ (j : Nat) (D : Option Addr) (c : Nat) (ts : List ByteArray), q = .int .i64 j ∧ o = .slice D ts.length c ∧ ts.length + j ≤ 41 ∧ (∀ t ∈ ts, t.size ≤ 22) ∧ wr.ownsRow N 9 1 (.slice D ts.length c) ts.length (strv ts) ∧ Below N v8 wr
set_option maxRecDepth 20000 in
set_option maxHeartbeats 8000000 in
theorem DrawPunchAll_any (A : Option Addr) (n c : Nat) (bs0 : List UInt8) (w : World) (ha : Rd w w.heap.size 1 A n (byts bs0)) (hn : n ≤ 1048576) :
    Calls Tryz.prog 5 #[.slice A n c] w (DpaP w) := by
  obtain ⟨j0, hj, hj0, hj1, hj2⟩ := info_parts info_strD
  obtain ⟨W, hW⟩ : ∃ W, W = w.alloc (.cells #[.slice none 0 0] 26) := ⟨_, rfl⟩
  have T0 : Below w.heap.size w W := by rw [hW]; exact ba (b0 w) _
  have c0 : W.cell? ⟨w.heap.size, 0, none⟩ = some (.slice none 0 0) := by rw [hW]; exact cell_new rfl rfl
  have f0 : W.frozen? ⟨w.heap.size, 0, none⟩ = false := by rw [hW]; exact froz_new rfl
  have z0 : W.heap.size = w.heap.size + 1 := by rw [hW]; simp
  have haW := ha.up T0
  have HW := Lib.hid hW
  clear hW ha
  go_enter Tryz.func5, Tryz.ntmps5
  go_wp2_with fail
  rw [← HW.out]
  refine (l00From_any A n c bs0 _ haW hn).mono ?_
  rintro e w1 ⟨p, hp, rfl, hs1, hb1⟩
  replace c0 := cell_later hb1 c0
  replace f0 := froz_later hb1 f0 (by omega)
  have T1 := bs T0 hb1
  have z1 := hb1.size
  have hlt := hs1.lt
  clear hb1 haW
  go_wp2_with fail
  refine (l05Bent_any p 0 _ hs1 (by omega)).mono ?_
  rintro e w2 ⟨s, hs21, rfl, hs2, hc2⟩
  replace c0 := hc2.cell c0 (.inl (by omega))
  replace f0 := hc2.froz f0 (by omega) (.inl (by omega))
  have T2 := hc2.below T1 (by omega) (by omega)
  have z2 := hc2.size
  clear hc2 hs1 T1
  go_wp2_with fail
  refine (l05Before_any p _ s _ hs2 (by omega) hs21).mono ?_
  rintro e w3 ⟨B, n, d, xs, rfl, hxl, hn40, hob, hs3, hc3⟩
  subst hxl
  replace c0 := hc3.cell c0 (.inl (by omega))
  replace f0 := hc3.froz f0 (by omega) (.inl (by omega))
  have z3 := hc3.size
  have TB := ba (b0 w3) (.cells #[.slice B xs.length d] 26)
  have HT4 := Lib.hid (bs (hc3.below T2 (by omega) (by omega)) TB)
  have b4 : (w3.alloc (.cells #[.slice B xs.length d] 26)).cell? ⟨w3.heap.size, 0, none⟩ = some (.slice B xs.length d) := cell_new rfl rfl
  replace c0 := cell_later TB c0
  replace f0 := froz_later TB f0 (by omega)
  have hs4 := hs3.later TB
  have HO4 := Lib.hid (hob.bs TB)
  have z4 : w3.heap.size + 1 ≤ (w3.alloc (.cells #[.slice B xs.length d] 26)).heap.size := by simp
  clear hob hc3 hs2 hs3 TB T2
  obtain ⟨v4, hv4⟩ : ∃ v4, v4 = w3.alloc (.cells #[.slice B xs.length d] 26) := ⟨_, rfl⟩
  rw [← hv4] at c0 f0 b4 hs4 HO4 HT4 z4
  have HV := Lib.hid hv4
  clear hv4
  go_wp2_with fail
  rw [← HV.out]
  refine (one_any p _ 20 _ hs4 (by omega) (by omega)).mono ?_
  rintro e v5 (⟨rfl, hs5, hc5⟩ | ⟨rfl, hs5, hc5⟩)
  · have z5 := hc5.size
    replace c0 := hc5.cell c0 (.inl (by omega))
    replace f0 := hc5.froz f0 (by omega) (.inl (by omega))
    replace b4 := hc5.cell b4 (.inr (by omega))
    have HT5 := Lib.hid (hc5.below HT4.out (by omega) (by omega))
    have HO5 := Lib.hid (HO4.out.chg hc5 (.inr (by omega)))
    clear hc5 hs4
    go_wp2_with fail
    refine (l05Typed_any p _ s _ hs5 (by omega) hs21).mono ?_
    rintro e v6 ⟨u, hu, rfl, hs6, hc6⟩
    have z6 := hc6.size
    replace c0 := hc6.cell c0 (.inl (by omega))
    replace f0 := hc6.froz f0 (by omega) (.inl (by omega))
    replace b4 := hc6.cell b4 (.inr (by omega))
    have HT6 := Lib.hid (hc6.below HT5.out (by omega) (by omega))
    have HO6 := Lib.hid (HO5.out.chg hc6 (.inr (by omega)))
    clear hc6 hs5
    have TC := ba (b0 v6) (.cells #[] 9)
    have hs7 := hs6.later TC
    have hrow : (v6.alloc (.cells #[] 9)).ownsRow v6.heap.size 9 1 (.slice (some ⟨v6.heap.size, 0, none⟩) 0 0) 0 [] := own_lit v6 #[] 0 rfl (Nat.le_refl _) (by omega) rfl
    go_wp2_with fail
    refine (pick_any p _ 2 _ hs7 (by omega) (by omega)).mono ?_
    rintro e v8 ⟨x, hx, rfl, hs8, hc8⟩
    have hx1 : x ≤ 1 := by omega
    have hp6 : p + 1 ≤ v6.heap.size := by omega
    have z7 : (v6.alloc (.cells #[] 9)).heap.size = v6.heap.size + 1 := by simp
    have z8 := hc8.size
    replace c0 := hc8.cell (cell_later TC c0) (.inl (by omega))
    replace f0 := hc8.froz (froz_later TC f0 (by omega)) (by omega) (.inl (by omega))
    replace b4 := hc8.cell (cell_later TC b4) (.inr (by omega))
    have HT8 := Lib.hid (hc8.below (bs HT6.out TC) (by omega) (by omega))
    have HO8 := Lib.hid ((HO6.out.bs TC).chg hc8 (.inr (by omega)))
    have HR8 := Lib.hid (own_chg hrow hc8 hp6)
    obtain ⟨N0, hN0⟩ : ∃ N0 : Nat, N0 = 40 + x := ⟨_, rfl⟩
    have hN41 : N0 ≤ 41 := by omega
    have HN0 := Lib.hid (show (40 : Int) + (x : Int) = (N0 : Int) by omega)
    clear hN0
    have HU := Lib.hid hu
    have HC0 := Lib.hid c0
    have HF0 := Lib.hid f0
    have HB4 := Lib.hid b4
    clear hc8 hs6 hs7 hs8 hrow TC hx hu c0 f0 b4
    go_wp2
    go_loopw [9, 10] (fun o q wr => DlR v6.heap.size v8 wr o q) (fun _ q _ => (intOf q).toNat)
    case atStart => exact ⟨N0, some ⟨v6.heap.size, 0, none⟩, 0, [], congrArg (Value.int .i64) HN0.out, rfl, by rw [List.length_nil, Nat.zero_add]; exact hN41, fun t ht => (List.not_mem_nil ht).elim, HR8.out, (b0 v8).mono (by omega)⟩
    case round =>
      obtain ⟨wo, rfl⟩ : ∃ wo : World, wo = wr := ⟨_, rfl⟩
      obtain ⟨j', D, c, ts, rfl, rfl, hgj, h22, hown, hbw⟩ := hrel
      have H22 := Lib.hid h22
      have hzz := hbw.size
      clear h22
      by_cases hj' : 0 < j'
      · obtain ⟨j, rfl⟩ : ∃ j, j' = j + 1 := ⟨j' - 1, by omega⟩
        have i1 : (0 : Int) < ((j + 1 : Nat) : Int) := by omega
        have hbase : v6.heap.size ≤ wo.heap.size := by omega
        go_wp2_with (at_builtin; refine wpList_ap rfl (.tmp 31) (.tmp 33) 27 rfl v6.heap.size 9 j0 _ 1 16 Tryz.underlying27 hj hj0 hj1 hj2 rfl (by omega) D ts.length c (strv ts) rfl wo hown 1 #[.string u] wo.heap.size rfl rfl rfl (by intro v hv; simp at hv; subst hv; rfl) (by omega) (by omega) (by omega) hbase ?_; intro g cap w6 hown6 hb6 hg6 _ _)
        refine ⟨⟨j, some ⟨g, 0, none⟩, cap, ts ++ [u], by go_num, by rw [List.length_append]; rfl, by rw [List.length_append, List.length_singleton]; omega, fun y hy => ?_, by rw [strv_snoc, List.length_append]; exact hown6, hbw.trans hb6⟩, by (simp [intOf]; try omega)⟩
        rcases List.mem_append.1 hy with hy | hy
        · exact H22.out y hy
        · rw [List.mem_singleton] at hy; subst hy; exact HU.out
      · obtain rfl : j' = 0 := by omega
        have C := chg_of hbw
        have c1 := C.cell HC0.out (.inl (by omega))
        have f1 := C.froz HF0.out (by omega) (.inl (by omega))
        have b1 := C.cell HB4.out (.inl (by omega))
        have HT9 := Lib.hid (C.below HT8.out (by omega) (by omega))
        have HO9 := Lib.hid (HO8.out.chg C (.inl (by omega)))
        have HOW := Lib.hid (Ob.of hown)
        clear hown hbw C
        go_wp2_with fail
        go_region
        all_goals
          go_wp2
          refine bodyPost_ret (v := .tuple #[.string s, .agg #[.slice B xs.length d], .slice D ts.length c]) (by simp [results, Tryz.results5, go_sem, *]) rfl ⟨s, B, _, d, xs, D, c, ts, hs21, rfl, rfl, hn40, by omega, H22.out, ?_, ?_, ?_⟩
          · exact ((HO9.out.below _ _ _ (by omega)).mono (by omega) (by simp <;> omega))
          · exact ((HOW.out.below _ _ _ (by omega)).mono (by omega) (by simp <;> omega))
          · exact (bset HT9.out _ _ _ (Nat.le_refl _)).drew
  · have z5 := hc5.size
    replace c0 := hc5.cell c0 (.inl (by omega))
    replace f0 := hc5.froz f0 (by omega) (.inl (by omega))
    replace b4 := hc5.cell b4 (.inr (by omega))
    have HT5 := Lib.hid (hc5.below HT4.out (by omega) (by omega))
    have HO5 := Lib.hid (HO4.out.chg hc5 (.inr (by omega)))
    have B4 := Lib.hid b4
    have C0 := Lib.hid c0
    have F0 := Lib.hid f0
    clear hc5 hs4
    go_wp2_with fail
    go_region_held3 (fun w' => w'.cell? ⟨w3.heap.size, 0, none⟩ = some (.slice B xs.length d)) (first | exact b4 | exact set_far b4 (by omega) | go_keep)
      ((go_at_call 30; refine (l05Many_any p (0 + 70 + 260 + 2) s _ ?_ (by omega) hs21).mono ?_; (first | exact hs5 | exact hs5.drew); rintro e w6 ⟨D, ck, ts, hts, h22, rfl, hod, hs6, hc6⟩; have cx : Chg p (p + 1) v5 w6 := ⟨hc6.os, hc6.tape, hc6.output, hc6.size, hc6.block⟩; replace b4 := cx.cell B4.out (.inr (by omega)); replace c0 := cx.cell C0.out (.inl (by omega)); replace f0 := cx.froz F0.out (by omega) (.inl (by omega))))
    all_goals
      have HT6 := Lib.hid (cx.below HT5.out (by omega) (by omega))
      have HO6 := Lib.hid (HO5.out.chg cx (.inr (by omega)))
      have HOD := Lib.hid hod
      have H22 := Lib.hid h22
      have z6 := cx.size
      clear hod h22 hs6 hc6
      go_wp2
      refine bodyPost_ret (v := .tuple #[.string s, .agg #[.slice B xs.length d], .slice D ts.length ck]) (by simp [results, Tryz.results5, go_sem, *]) rfl ⟨s, B, _, d, xs, D, ck, ts, hs21, rfl, rfl, hn40, by omega, H22.out, ?_, ?_, ?_⟩
      · exact (HO6.out.below _ _ _ (by omega)).mono (by omega) (by simp <;> omega)
      · exact ((Ob.mono HOD.out (show w.heap.size + 1 ≤ _ by first | exact (show w.heap.size + 1 ≤ v5.heap.size by omega) | (simp <;> omega)) (Nat.le_refl _)).below _ _ _ (by omega)).mono (by omega) (by simp <;> omega)
      · first | exact bset HT6.out _ _ _ (Nat.le_refl _) | exact (bset HT6.out _ _ _ (Nat.le_refl _)).drew
end Go.Proofs.YtkmejkeanmjfbaaGreatDoor
