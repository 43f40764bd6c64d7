/- Fields of cards: their characters, their texts, comparing; in the program and in the reference. The texts of a field of all cards, the steps, the groups; in the program and in the reference. Steps and groups; IsSorted, FirstStep; in the program and in the reference. -/
import Derived.Test.YtdppmlchabogaaaRankAll
import Derived.Laws.IdiomStrings
import Derived.IntWalk
/-! ### Fields of cards: their characters, their texts, comparing; in the program and in the reference. -/
namespace Go.Proofs.Ytdppmlchabogaaa
open Go.RowKit

theorem info_u8K : (Try.prog.info? 5).map (fun i => (i.zero, i.size, i.bytes)) = some (some (.int .u8 0), 1, 1) := by kernel_rfl
theorem info_strK : (Try.prog.info? 9).map (fun i => (i.zero, i.size, i.bytes)) = some (some (.string ⟨#[]⟩), 1, 16) := by kernel_rfl

set_option maxHeartbeats 1000000 in
theorem hasField_any (A : Option Addr) (c : Nat) (xs : List Int) (i j : Nat) (w : World) (ha : Rd w w.heap.size 1 A xs.length (ints xs)) (hij : i < j) (hj : j ≤ xs.length) (hl : xs.length ≤ 1048576) (hc : xs.length ≤ c) :
    Calls Try.prog 258 #[.agg #[.slice A xs.length c], .agg #[.int .i64 (i : Int), .int .i64 (j : Int)]] w fun e w' => e = .returned (.bool (legalL (part xs (i : Int) (j : Int)))) ∧ Below w.heap.size w w' := by
  obtain ⟨b, o, rfl, _, _⟩ := ha.at_ (show 0 < xs.length by omega)
  have hp := rd_part ((ha.a1 (.cells #[.slice (some ⟨b, o, none⟩) xs.length c] 37)).a1 (.cells #[.int .i64 (i : Int), .int .i64 (j : Int)] 27)) hij hj
  have HPL := Lib.hid (part_len hij hj)
  have ci : ¬ c = i := by omega
  have i1 : (i : Int) ≤ (j : Int) := by omega
  have i2 : (j : Int) ≤ (c : Int) := by omega
  go_enter Try.func258, Try.ntmps258
  go_wp2_with fail
  refine (hasCharacters_any (j - i) _ _ (part xs (i : Int) (j : Int)) _ HPL.out hp (by omega)).mono ?_; rintro e w1 ⟨rfl, hb1⟩
  go_wp2
  go_ret
  exact ⟨rfl, bs (ba (ba (b0 _) _) _) hb1⟩

theorem haveField1_any (bf : Nat) (A : Option Addr) (c : Nat) (xs : List Int) (i j : Nat) (w : World) (h1 : w.cell? ⟨bf, 0, none⟩ = some (.int .i64 (i : Int))) (h2 : w.cell? ⟨bf, 1, none⟩ = some (.int .i64 (j : Int)))
    (ha : Rd w w.heap.size 1 A xs.length (ints xs)) (hij : i < j) (hj : j ≤ xs.length) (hl : xs.length ≤ 1048576) (hc : xs.length ≤ c) :
    Calls Try.prog 257 #[.agg #[.slice A xs.length c], .pointer (some ⟨bf, 0, none⟩)] w fun e w' => e = .returned (.bool (!legalL (part xs (i : Int) (j : Int)))) ∧ Below w.heap.size w w' := by
  have k1 := cell_alloc h1 (.cells #[.slice A xs.length c] 37)
  have k2 := cell_alloc h2 (.cells #[.slice A xs.length c] 37)
  have ha1 := ha.a1 (.cells #[.slice A xs.length c] 37)
  clear h1 h2 ha
  go_enter Try.func257, Try.ntmps257
  go_wp2_with fail
  refine (hasField_any _ _ xs i j _ ha1 hij hj hl hc).mono ?_; rintro e w1 ⟨rfl, hb1⟩
  go_wp2
  go_ret
  exact ⟨rfl, bs (ba (b0 _) _) hb1⟩
theorem haveF_any (L : List (List Int)) (a b : Int) : (!(L.any fun x => !legalL (part x a b))) = haveF L a b := by
  rw [any_not_allI]
  simp [haveF]
theorem haveField_any (D : Option Addr) (c : Nat) (hs : List Hd) (i j : Nat) (w : World) (ha : RdD w w.heap.size D hs) (hok : deckOk (cards hs) = true) (hij : i < j) (hj : j ≤ deckW (cards hs)) (hl : hs.length + tot hs ≤ 1048576) :
    Calls Try.prog 216 #[.slice D hs.length c, .agg #[.int .i64 (i : Int), .int .i64 (j : Int)]] w fun e w' => e = .returned (.bool (haveF (cards hs) (i : Int) (j : Int))) ∧ Below w.heap.size w w' := by
  have ha2 := ha.a1 (.cells #[.int .i64 (i : Int), .int .i64 (j : Int)] 27)
  have c1 : World.cell? (w.alloc (.cells #[.int .i64 (i : Int), .int .i64 (j : Int)] 27)) ⟨w.heap.size, 0, none⟩ = some (.int .i64 (i : Int)) := cell_new rfl rfl
  have c2 : World.cell? (w.alloc (.cells #[.int .i64 (i : Int), .int .i64 (j : Int)] 27)) ⟨w.heap.size, 1, none⟩ = some (.int .i64 (j : Int)) := cell_new rfl rfl
  have hcon := Lib.hid (ContainsFuncCard_any D c hs 257 #[.pointer (some ⟨w.heap.size, 0, none⟩)] (fun x => !legalL (part x (i : Int) (j : Int))) _ ha2 (by omega) Try.call257
    (fun h hh w' hbk => by
      obtain ⟨k, hk, rfl⟩ := List.mem_iff_getElem.1 hh
      have hra := ha2.up hbk
      have hlk := tot_at hs k hk
      exact haveField1_any _ _ _ _ i j w' (cell_later hbk c1) (cell_later hbk c2) (hra.card_at hk) hij (by rw [← deckW_at hok hk]; exact hj) (by omega) (hra.cap_at hk)))
  clear ha2 c1 c2
  have HA := Lib.hid (haveF_any (cards hs) (i : Int) (j : Int))
  obtain ⟨q, hq⟩ : ∃ q, q = (cards hs).any (fun x => !legalL (part x (i : Int) (j : Int))) := ⟨_, rfl⟩
  rw [← hq] at hcon HA
  clear hq
  go_enter Try.func216, Try.ntmps216
  go_wp2_with fail
  refine hcon.out.mono ?_; rintro e w1 ⟨rfl, hb1⟩
  go_wp2
  go_ret
  exact ⟨ret_bool HA.out, bs (ba (b0 _) _) hb1⟩

theorem compareHoles_q (n : Nat) (A B : Option Addr) (c d : Nat) (xs ys : List Int) (z : Int) (w : World) (hz : z = cmpR xs ys) (hn : xs.length = n) (hm : ys.length = n) (ha : Rd w w.heap.size 1 A n (ints xs)) (hb : Rd w w.heap.size 1 B n (ints ys)) (hl : n ≤ 1048576) :
    Calls Try.prog 236 #[.slice A n c, .slice B n d] w fun e w' => e = .returned (.int .i64 z) ∧ Below w.heap.size w w' := by
  subst hz
  exact compareHoles_any n n A B c d xs ys w hn hm rfl ha hb hl
set_option maxHeartbeats 2000000 in
theorem compareFields_any (A B : Option Addr) (c d : Nat) (xs ys : List Int) (i j : Nat) (w : World) (ha : Rd w w.heap.size 1 A xs.length (ints xs)) (hb : Rd w w.heap.size 1 B ys.length (ints ys)) (hij : i < j) (hj : j ≤ xs.length) (hj' : j ≤ ys.length) (hl : xs.length ≤ 1048576) (hl' : ys.length ≤ 1048576)
    (hc : xs.length ≤ c) (hd : ys.length ≤ d) :
    Calls Try.prog 219 #[.agg #[.slice A xs.length c], .agg #[.slice B ys.length d], .agg #[.int .i64 (i : Int), .int .i64 (j : Int)]] w fun e w' => e = .returned (.int .i64 (cmpR (part xs (i : Int) (j : Int)) (part ys (i : Int) (j : Int)))) ∧ Below w.heap.size w w' := by
  obtain ⟨b1, o1, rfl, _, _⟩ := ha.at_ (show 0 < xs.length by omega)
  obtain ⟨b2, o2, rfl, _, _⟩ := hb.at_ (show 0 < ys.length by omega)
  have T0 : Below w.heap.size w (((w.alloc (.cells #[.slice (some ⟨b1, o1, none⟩) xs.length c] 37)).alloc (.cells #[.slice (some ⟨b2, o2, none⟩) ys.length d] 37)).alloc (.cells #[.int .i64 (i : Int), .int .i64 (j : Int)] 27)) := ba (ba (ba (b0 w) _) _) _
  have ra := ((ha.a1 (.cells #[.slice (some ⟨b1, o1, none⟩) xs.length c] 37)).a1 (.cells #[.slice (some ⟨b2, o2, none⟩) ys.length d] 37)).a1 (.cells #[.int .i64 (i : Int), .int .i64 (j : Int)] 27)
  have rb := ((hb.a1 (.cells #[.slice (some ⟨b1, o1, none⟩) xs.length c] 37)).a1 (.cells #[.slice (some ⟨b2, o2, none⟩) ys.length d] 37)).a1 (.cells #[.int .i64 (i : Int), .int .i64 (j : Int)] 27)
  obtain ⟨W, hW⟩ : ∃ W, W = (((w.alloc (.cells #[.slice (some ⟨b1, o1, none⟩) xs.length c] 37)).alloc (.cells #[.slice (some ⟨b2, o2, none⟩) ys.length d] 37)).alloc (.cells #[.int .i64 (i : Int), .int .i64 (j : Int)] 27)) := ⟨_, rfl⟩
  have k1 : W.cell? ⟨w.heap.size, 0, none⟩ = some (.slice (some ⟨b1, o1, none⟩) xs.length c) := by rw [hW]; exact cell_alloc (cell_alloc (cell_new rfl rfl) _) _
  have k2 : W.cell? ⟨w.heap.size + 1, 0, none⟩ = some (.slice (some ⟨b2, o2, none⟩) ys.length d) := by rw [hW]; exact cell_alloc (cell_new (by simp) rfl) _
  have k3 : W.cell? ⟨w.heap.size + 1 + 1, 0, none⟩ = some (.int .i64 (i : Int)) := by rw [hW]; exact cell_new (by simp) rfl
  have k4 : W.cell? ⟨w.heap.size + 1 + 1, 1, none⟩ = some (.int .i64 (j : Int)) := by rw [hW]; exact cell_new (by simp) rfl
  rw [← hW] at ra rb T0
  have pa := rd_part ra hij hj
  have pb := rd_part rb hij hj'
  have HPA := Lib.hid (part_len hij hj)
  have HPB := Lib.hid (part_len hij hj')
  have HW := Lib.hid hW
  have ci : ¬ c = i := by omega
  have di : ¬ d = i := by omega
  have i1 : (i : Int) ≤ (j : Int) := by omega
  have i2 : (j : Int) ≤ (c : Int) := by omega
  have i3 : (j : Int) ≤ (d : Int) := by omega
  obtain ⟨z, hz⟩ : ∃ z, z = cmpR (part xs (i : Int) (j : Int)) (part ys (i : Int) (j : Int)) := ⟨_, rfl⟩
  have HZ := Lib.hid hz
  have l1 := fun x : Later W => lat_cell x k1
  have l2 := fun x : Later W => lat_cell x k2
  have l3 := fun x : Later W => lat_cell x k3
  have l4 := fun x : Later W => lat_cell x k4
  clear hz hW k1 k2 k3 k4 ra rb ha hb
  go_enter Try.func219, Try.ntmps219
  go_wp2_with fail
  rw [← HW.out]
  refine wp_region_later (by kernel_rfl) (by kernel_rfl) ?_
  repeat (go_big_quiet_step ((go_at_call 236; exact lat_call (compareHoles_q (j - i) _ _ _ _ (part xs (i : Int) (j : Int)) (part ys (i : Int) (j : Int)) z _ HZ.out HPA.out HPB.out (lat_rd _ pa) (lat_rd _ pb) (by omega)))))
  refine wpQuiet_nil ?_
  intro w4 hb4
  go_wp2
  go_ret
  exact ⟨ret_int HZ.out, bs T0 hb4⟩

theorem codeK_z {L : List (List Int)} {a b : Int} {q : Bool} (h : deckOk L = true) (h2 : fieldOk a b (deckW L : Int) = true) (h3 : haveF L a b = q) : codeK L a b = if q = true then 0 else 8 := by unfold codeK; rw [if_pos h, if_pos h2, h3]
set_option maxHeartbeats 2000000 in
theorem sortCode_any (D : Option Addr) (c : Nat) (hs : List Hd) (a b : Int) (w : World) (ha : RdD w w.heap.size D hs) (hl : hs.length + tot hs ≤ 1048576) :
    Calls Try.prog 115 #[.slice D hs.length c, .agg #[.int .i64 a, .int .i64 b]] w fun e w' => e = .returned (.int .i64 (codeK (cards hs) a b)) ∧ Below w.heap.size w w' := by
  have T0 : Below w.heap.size w (w.alloc (.cells #[.int .i64 a, .int .i64 b] 27)) := ba (b0 w) _
  have ra := ha.a1 (.cells #[.int .i64 a, .int .i64 b] 27)
  rcases Bool.eq_false_or_eq_true (deckOk (cards hs)) with h1 | h1
  · have H1 := Lib.hid h1
    rcases Bool.eq_false_or_eq_true (fieldOk a b (deckW (cards hs) : Int)) with h2 | h2
    · obtain ⟨i, j, rfl, rfl, hij, hjw⟩ := fieldOk_nat h2
      rcases Bool.eq_false_or_eq_true (haveF (cards hs) (i : Int) (j : Int)) with h3 | h3
      all_goals
        have HC := Lib.hid (codeK_z h1 h2 h3)
        go_enter Try.func115, Try.ntmps115
        go_wp2_with fail
        refine (ValidDeck_any _ _ hs _ ra hl).mono ?_; rintro e w1 ⟨rfl, hb1⟩
        have k2 : w1.cell? ⟨w.heap.size, 0, none⟩ = some (.int .i64 (i : Int)) := cell_later hb1 (cell_new rfl rfl)
        have k3 : w1.cell? ⟨w.heap.size, 1, none⟩ = some (.int .i64 (j : Int)) := cell_later hb1 (cell_new rfl rfl)
        have l2 := fun x : Later w1 => lat_cell x k2
        have l3 := fun x : Later w1 => lat_cell x k3
        have hra := ra.up hb1
        have T1 := bs T0 hb1
        clear hb1
        go_wp2_with fail
        refine wp_region_later (by kernel_rfl) (by kernel_rfl) ?_
        repeat (go_big_quiet_step ((first | (go_at_call 128; exact lat_call (deckColumns_any _ _ hs _ (hra.up (Later.below _)) hl)) | (go_at_call 215; exact lat_call (isField_any _ _ _ _)))))
        refine wpQuiet_nil ?_
        intro w2 hb2
        have k4 := cell_later hb2 k2
        have k5 := cell_later hb2 k3
        clear k2 k3 l2 l3
        go_wp2_with fail
        refine (haveField_any _ _ hs i j _ (hra.up hb2) H1.out hij hjw hl).mono ?_; rintro e w3 ⟨rfl, hb3⟩
        go_wp2
        go_ret
        exact ⟨ret_int (by rw [HC.out]; simp), bs (bs T1 hb2) hb3⟩
    · have HC := Lib.hid (codeK_2 h1 h2)
      go_enter Try.func115, Try.ntmps115
      go_wp2_with fail
      refine (ValidDeck_any _ _ hs _ ra hl).mono ?_; rintro e w1 ⟨rfl, hb1⟩
      have k2 : w1.cell? ⟨w.heap.size, 0, none⟩ = some (.int .i64 a) := cell_later hb1 (cell_new rfl rfl)
      have k3 : w1.cell? ⟨w.heap.size, 1, none⟩ = some (.int .i64 b) := cell_later hb1 (cell_new rfl rfl)
      have l2 := fun x : Later w1 => lat_cell x k2
      have l3 := fun x : Later w1 => lat_cell x k3
      have hra := ra.up hb1
      have T1 := bs T0 hb1
      clear hb1
      go_wp2_with fail
      refine wp_region_later (by kernel_rfl) (by kernel_rfl) ?_
      repeat (go_big_quiet_step ((first | (go_at_call 128; exact lat_call (deckColumns_any _ _ hs _ (hra.up (Later.below _)) hl)) | (go_at_call 215; exact lat_call (isField_any _ _ _ _)))))
      refine wpQuiet_nil ?_
      intro w2 hb2
      go_wp2
      go_ret
      exact ⟨ret_int HC.out.symm, bs T1 hb2⟩
  · have HC := Lib.hid (codeK_1 (a := a) (b := b) h1)
    go_enter Try.func115, Try.ntmps115
    go_wp2_with fail
    refine (ValidDeck_any _ _ hs _ ra hl).mono ?_; rintro e w1 ⟨rfl, hb1⟩
    go_wp2
    go_ret
    exact ⟨ret_int HC.out.symm, bs T0 hb1⟩

/-! ### the reference's texts -/
def byts (s : List UInt8) : List Value := s.map fun b => .int .u8 (b.toNat : Int)
theorem byts_length (s : List UInt8) : (byts s).length = s.length := by simp [byts]
theorem byts_get (s : List UInt8) (k : Nat) (h : k < s.length) : (byts s)[k]? = some (.int .u8 (s[k].toNat : Int)) := by simp [byts, h]
theorem byts_snoc (s : List UInt8) (b : UInt8) : byts (s ++ [b]) = byts s ++ [.int .u8 (b.toNat : Int)] := by simp [byts]
theorem textL_snoc (xs : List Int) (k : Nat) (h : k < xs.length) : textL (xs.take (k + 1)) = textL (xs.take k) ++ [charM xs[k]] := by
  unfold textL
  rw [List.take_succ_eq_append_getElem h, List.map_append]
  rfl
theorem conv_text {w : World} {base g n cap : Nat} {s : List UInt8} (ho : w.ownsRow base 5 1 (.slice (some ⟨g, 0, none⟩) n cap) n (byts s)) :
    (convert 22 9 (.slice (some ⟨g, 0, none⟩) n cap)).run Try.prog w = .ok (.string (bs_ s)) w := by
  have hn : n = s.length := by have := ho.1; rw [byts_length, Nat.mul_one] at this; exact this.symm
  subst hn
  refine run_convert_bytes_back w 22 9 5 ⟨g, 0, none⟩ cap s Try.underlying22 Try.underlying5 Try.underlying9 ?_
  intro j hj
  have h1 := own_cell ho j (by rw [byts_length]; exact hj)
  rw [Addr.add_lit, Nat.zero_add, h1]
  simp [byts]
def keyT (xs : List Int) : List UInt8 := if legalL xs = true then textL xs else []
theorem keyT_yes {xs : List Int} (h : legalL xs = true) : keyT xs = textL xs := by unfold keyT; rw [if_pos h]
theorem keyT_no {xs : List Int} (h : legalL xs = false) : keyT xs = [] := by unfold keyT; rw [if_neg (by simp [h])]
theorem ret_sb {s t : List UInt8} {p q : Bool} (h : s = t) (k : p = q) : Ending.returned (.tuple #[.string (bs_ s), .bool p]) = .returned (.tuple #[.string (bs_ t), .bool q]) := by rw [h, k]

set_option maxRecDepth 20000 in
set_option maxHeartbeats 4000000 in
theorem l03Text_any (n : Nat) (A : Option Addr) (c : Nat) (xs : List Int) (w : World) (hn : xs.length = n) (ha : Rd w w.heap.size 1 A n (ints xs)) (hl : n ≤ 1048576) :
    Calls Try.prog 154 #[.slice A n c] w fun e w' => e = .returned (.tuple #[.string (bs_ (keyT xs)), .bool (legalL xs)]) ∧ Below w.heap.size w w' := by
  obtain ⟨j0, hj, hj0, hj1, hj2⟩ := info_parts info_u8K
  subst hn
  go_enter Try.func154, Try.ntmps154
  go_wp2
  go_loopw [4, 5] (fun o i wr => ∃ (k g cg : Nat), k ≤ xs.length ∧ i = .int .i64 k ∧ o = .slice (some ⟨g, 0, none⟩) k cg ∧ (xs.take k).any (fun m => !legalM m) = false ∧ wr.ownsRow w.heap.size 5 1 (.slice (some ⟨g, 0, none⟩) k cg) k (byts (textL (xs.take k))) ∧ Below w.heap.size w wr) (fun _ i _ => xs.length - (intOf i).toNat)
  case atStart => exact ⟨0, w.heap.size, 0, Nat.zero_le _, rfl, rfl, rfl, own_lit w #[] 0 rfl (Nat.le_refl _) (by omega) rfl, ba (b0 w) (.cells #[] 5)⟩
  case round =>
    obtain ⟨wo, rfl⟩ : ∃ wo : World, wo = wr := ⟨_, rfl⟩
    obtain ⟨k, g, cg, hk, rfl, rfl, hno, hown, hbw⟩ := hrel
    have HNO := Lib.hid hno
    clear hno
    by_cases hlt : k < xs.length
    · obtain ⟨b1, o1, rfl, hbb, hc⟩ := ha.at_ hlt
      have d1 := cell_later hbw (hc k _ (ints_get _ k hlt))
      obtain ⟨u, hu⟩ : ∃ u, u = xs[k] := ⟨_, rfl⟩
      rw [← hu] at d1
      have HS := Lib.hid (textL_snoc xs k hlt)
      have i1 : (k : Int) < (xs.length : Int) := by omega
      have HU := Lib.hid hu
      have hbase := hbw.size
      clear hu hc hbb
      rcases Bool.eq_false_or_eq_true (legalM u) with hm | hm
      · have HP := Lib.hid (any_take_succ (p := fun m => !legalM m) hlt HNO.out (by rw [← HU.out, hm]; rfl))
        go_wp2_with fail
        refine (l03Char_yes u _ hm).mono ?_; rintro e w1 ⟨rfl, rfl⟩
        go_wp2_with (at_builtin; refine wpList_ap rfl (.tmp 25) (.tmp 27) 22 rfl w.heap.size 5 j0 _ 1 1 Try.underlying22 hj hj0 hj1 hj2 rfl (by omega) _ k _ (byts (textL (xs.take k))) rfl wo hown 1 #[.int .u8 ((charM u).toNat : Int)] wo.heap.size rfl rfl rfl (by intro v hv; simp at hv; subst hv; rfl) (by omega) (by omega) (by omega) hbase ?_; intro gg cap w6 hown6 hb6 hg6 _ _)
        have HO := Lib.hid (show w6.ownsRow w.heap.size 5 1 (.slice (some ⟨gg, 0, none⟩) (k + 1) cap) (k + 1) (byts (textL (xs.take (k + 1)))) by rw [HS.out, ← HU.out, byts_snoc]; exact hown6)
        have HB := Lib.hid (hbw.trans hb6)
        clear hown6 hown hb6 hg6 hbw
        go_wp2
        go_roundw
        case rel => exact ⟨k + 1, gg, cap, by omega, by go_num, rfl, HP.out, HO.out, HB.out⟩
        case measure => simp [intOf]; omega
      · have HL := Lib.hid (show legalL xs = false from List.all_eq_false.2 ⟨xs[k], List.getElem_mem hlt, by rw [← HU.out, hm]; simp⟩)
        go_wp2_with fail
        refine (l03Char_no u _ hm).mono ?_; rintro e w1 ⟨rfl, rfl⟩
        go_wp2
        go_ret2
        exact ⟨ret_sb (keyT_no HL.out).symm HL.out.symm, hbw⟩
    · obtain rfl : k = xs.length := by omega
      have HL := Lib.hid (show legalL xs = true by
        have h1 := any_take_all hlt HNO.out
        rw [any_not_allI] at h1
        simpa [legalL] using h1)
      have hown2 : wo.ownsRow w.heap.size 5 1 (.slice (some ⟨g, 0, none⟩) xs.length cg) xs.length (byts (textL xs)) := by
        rw [List.take_of_length_le (Nat.le_refl _)] at hown
        exact hown
      have hconv := conv_text hown2
      clear hown hown2
      go_wp2
      go_ret2
      exact ⟨ret_sb (keyT_yes HL.out).symm HL.out.symm, hbw⟩

set_option maxHeartbeats 2000000 in
theorem l02Part_any (p q b o c : Nat) (xs : List Int) (i j : Nat) (w : World) (hp : w.cell? ⟨p, q, none⟩ = some (.slice (some ⟨b, o, none⟩) xs.length c)) (hij : i < j) (hj : j ≤ xs.length) (hc : xs.length ≤ c) :
    Calls Try.prog 153 #[.pointer (some ⟨p, q, none⟩), .agg #[.int .i64 (i : Int), .int .i64 (j : Int)]] w fun e w' => e = .returned (.slice (some ⟨b, o + i, none⟩) (j - i) (c - i)) ∧ Below w.heap.size w w' := by
  have T0 : Below w.heap.size w (w.alloc (.cells #[.int .i64 (i : Int), .int .i64 (j : Int)] 27)) := ba (b0 w) _
  obtain ⟨W, hW⟩ : ∃ W, W = w.alloc (.cells #[.int .i64 (i : Int), .int .i64 (j : Int)] 27) := ⟨_, rfl⟩
  have k1 : W.cell? ⟨p, q, none⟩ = some (.slice (some ⟨b, o, none⟩) xs.length c) := by rw [hW]; exact cell_alloc hp _
  have k3 : W.cell? ⟨w.heap.size, 0, none⟩ = some (.int .i64 (i : Int)) := by rw [hW]; exact cell_new rfl rfl
  have k4 : W.cell? ⟨w.heap.size, 1, none⟩ = some (.int .i64 (j : Int)) := by rw [hW]; exact cell_new rfl rfl
  rw [← hW] at T0
  have HW := Lib.hid hW
  have ci : ¬ c = i := by omega
  have i1 : (i : Int) ≤ (j : Int) := by omega
  have i2 : (j : Int) ≤ (c : Int) := by omega
  have l1 := fun x : Later W => lat_cell x k1
  have l3 := fun x : Later W => lat_cell x k3
  have l4 := fun x : Later W => lat_cell x k4
  clear hW k1 k3 k4 hp
  go_enter Try.func153, Try.ntmps153
  go_wp2_with fail
  rw [← HW.out]
  refine wp_region_later (by kernel_rfl) (by kernel_rfl) ?_
  repeat (go_big_quiet_step (fail))
  refine wpQuiet_nil ?_
  intro w4 hb4
  go_wp2
  go_ret
  exact ⟨rfl, bs T0 hb4⟩

set_option maxHeartbeats 1000000 in
theorem l03Key_any (p q : Nat) (A : Option Addr) (c : Nat) (xs : List Int) (i j : Nat) (w : World) (hp : w.cell? ⟨p, q, none⟩ = some (.slice A xs.length c)) (ha : Rd w w.heap.size 1 A xs.length (ints xs)) (hij : i < j) (hj : j ≤ xs.length) (hc : xs.length ≤ c) (hl : xs.length ≤ 1048576) :
    Calls Try.prog 121 #[.pointer (some ⟨p, q, none⟩), .agg #[.int .i64 (i : Int), .int .i64 (j : Int)]] w fun e w' => e = .returned (.tuple #[.string (bs_ (keyT (part xs (i : Int) (j : Int)))), .bool (legalL (part xs (i : Int) (j : Int)))]) ∧ Below w.heap.size w w' := by
  obtain ⟨b, o, rfl, _, _⟩ := ha.at_ (show 0 < xs.length by omega)
  have T0 : Below w.heap.size w (w.alloc (.cells #[.int .i64 (i : Int), .int .i64 (j : Int)] 27)) := ba (b0 w) _
  have k1 := cell_alloc hp (.cells #[.int .i64 (i : Int), .int .i64 (j : Int)] 27)
  have ra := ha.a1 (.cells #[.int .i64 (i : Int), .int .i64 (j : Int)] 27)
  have HPL := Lib.hid (part_len hij hj)
  clear hp ha
  go_enter Try.func121, Try.ntmps121
  go_wp2_with fail
  refine (l02Part_any p q b o c xs i j _ k1 hij hj hc).mono ?_; rintro e w1 ⟨rfl, hb1⟩
  go_wp2_with fail
  refine (l03Text_any (j - i) _ _ (part xs (i : Int) (j : Int)) _ HPL.out (rd_part (ra.up hb1) hij hj) (by omega)).mono ?_; rintro e w2 ⟨rfl, hb2⟩
  go_wp2
  go_ret2
  exact ⟨rfl, bs (bs T0 hb1) hb2⟩
end Go.Proofs.Ytdppmlchabogaaa

/-! ### The texts of a field of all cards, the steps, the groups; in the program and in the reference. -/
namespace Go.Proofs.Ytdppmlchabogaaa
open Go.RowKit

theorem part_deck {L : List (List Int)} (hok : deckOk L = true) {i j : Nat} (hij : i < j) (hj : j ≤ deckW L) {k : Nat} (hk : k < L.length) : (part L[k] (i : Int) (j : Int)).length = j - i ∧ j ≤ L[k].length := by
  have h1 := (deckOk_card hok hk).2
  have h2 : deckW L = wid0 L := by unfold deckW; rw [if_neg (by omega)]
  exact ⟨part_len hij (by omega), by omega⟩
theorem ret_kk {K : Option Addr} {n m ck : Nat} {a b : Int} (h : a = b) (k : n = m) : Ending.returned (.tuple #[.slice K n ck, .int .i64 a]) = .returned (.tuple #[.slice K m ck, .int .i64 b]) := by rw [h, k]

theorem l03Key_yes (p q : Nat) (A : Option Addr) (c : Nat) (xs : List Int) (i j : Nat) (t : List UInt8) (w : World) (ht : t = textL (part xs (i : Int) (j : Int))) (hv : legalL (part xs (i : Int) (j : Int)) = true) (hp : w.cell? ⟨p, q, none⟩ = some (.slice A xs.length c)) (ha : Rd w w.heap.size 1 A xs.length (ints xs)) (hij : i < j) (hj : j ≤ xs.length) (hc : xs.length ≤ c) (hl : xs.length ≤ 1048576) :
    Calls Try.prog 121 #[.pointer (some ⟨p, q, none⟩), .agg #[.int .i64 (i : Int), .int .i64 (j : Int)]] w fun e w' => e = .returned (.tuple #[.string (bs_ t), .bool true]) ∧ Below w.heap.size w w' := by
  rw [ht, ← keyT_yes hv]
  have := l03Key_any p q A c xs i j w hp ha hij hj hc hl
  rwa [hv] at this
theorem l03Key_no (p q : Nat) (A : Option Addr) (c : Nat) (xs : List Int) (i j : Nat) (w : World) (hv : legalL (part xs (i : Int) (j : Int)) = false) (hp : w.cell? ⟨p, q, none⟩ = some (.slice A xs.length c)) (ha : Rd w w.heap.size 1 A xs.length (ints xs)) (hij : i < j) (hj : j ≤ xs.length) (hc : xs.length ≤ c) (hl : xs.length ≤ 1048576) :
    Calls Try.prog 121 #[.pointer (some ⟨p, q, none⟩), .agg #[.int .i64 (i : Int), .int .i64 (j : Int)]] w fun e w' => e = .returned (.tuple #[.string (bs_ []), .bool false]) ∧ Below w.heap.size w w' := by
  have := l03Key_any p q A c xs i j w hp ha hij hj hc hl
  rwa [hv, keyT_no hv] at this

/-- Behind k cards. -/
def KyR (L : List (List Int)) (i j : Nat) (w wr : World) (o q : Value) : Prop := ∃ (k : Nat) (G : Option Addr) (cg : Nat), k ≤ L.length ∧ q = .int .i64 k ∧ o = .slice G k cg ∧ (L.take k).any (fun x => !legalL (part x (i : Int) (j : Int))) = false ∧
  wr.ownsRow w.heap.size 9 1 (.slice G k cg) k (strs (keysL (L.take k) (i : Int) (j : Int))) ∧ Below w.heap.size w wr

set_option maxRecDepth 20000 in
set_option maxHeartbeats 4000000 in
theorem l07Keys_any (D : Option Addr) (c : Nat) (hs : List Hd) (a b : Int) (w : World) (ha : RdD w w.heap.size D hs) (hl : hs.length + tot hs ≤ 1048576) :
    Calls Try.prog 124 #[.slice D hs.length c, .agg #[.int .i64 a, .int .i64 b]] w fun e w' => ∃ K ck, e = .returned (.tuple #[.slice K (keysRes (cards hs) a b).length ck, .int .i64 (codeK (cards hs) a b)]) ∧
      w'.ownsRow w.heap.size 9 1 (.slice K (keysRes (cards hs) a b).length ck) (keysRes (cards hs) a b).length (strs (keysRes (cards hs) a b)) ∧ Below w.heap.size w w' := by
  obtain ⟨j0, hj, hj0, hj1, hj2⟩ := info_parts info_strK
  have T0 : Below w.heap.size w (w.alloc (.cells #[.int .i64 a, .int .i64 b] 27)) := ba (b0 w) _
  have ra := ha.a1 (.cells #[.int .i64 a, .int .i64 b] 27)
  have HCL := Lib.hid (cards_length hs)
  rcases Bool.eq_false_or_eq_true (deckOk (cards hs)) with h1 | h1
  · have H1 := Lib.hid h1
    have h40 : hs.length ≤ 40 := by have := deckOk_len h1; rwa [cards_length] at this
    rcases Bool.eq_false_or_eq_true (fieldOk a b (deckW (cards hs) : Int)) with h2 | h2
    · obtain ⟨i, j, rfl, rfl, hij, hjw⟩ := fieldOk_nat h2
      have H2 := Lib.hid h2
      go_enter Try.func124, Try.ntmps124
      go_wp2_with fail
      refine (l02Deck_any _ _ hs _ ra hl).mono ?_; rintro e w1 ⟨rfl, hb1⟩
      have k2 : w1.cell? ⟨w.heap.size, 0, none⟩ = some (.int .i64 (i : Int)) := cell_later hb1 (cell_new rfl rfl)
      have k3 : w1.cell? ⟨w.heap.size, 1, none⟩ = some (.int .i64 (j : Int)) := cell_later hb1 (cell_new rfl rfl)
      have l2 := fun x : Later w1 => lat_cell x k2
      have l3 := fun x : Later w1 => lat_cell x k3
      have hra := ra.up hb1
      have T1 := bs T0 hb1
      clear hb1 ra
      go_wp2_with fail
      refine wp_region_later (by kernel_rfl) (by kernel_rfl) ?_
      repeat (go_big_quiet_step ((first | (go_at_call 221; exact lat_pure (l07Width_any _ _ hs _ (hra.up (Later.below _)) hl)) | (go_at_call 120; exact lat_call (l02Field_any _ _ _ _)))))
      refine wpQuiet_nil ?_
      intro w2 hb2
      have k4 := cell_later hb2 k2
      have k5 := cell_later hb2 k3
      have rb := hra.up hb2
      have T2 := bs T1 hb2
      clear k2 k3 l2 l3 hb2 hra T1
      go_wp2
      go_loopw [6, 7] (fun o q wr => KyR (cards hs) i j w2 wr o q) (fun _ q _ => hs.length - (intOf q).toNat)
      case atStart => exact ⟨0, some ⟨w2.heap.size, 0, none⟩, 0, Nat.zero_le _, rfl, rfl, rfl, own_lit w2 #[] 0 rfl (Nat.le_refl _) (by omega) rfl, ba (b0 w2) (.cells #[] 9)⟩
      case round =>
        obtain ⟨wo, rfl⟩ : ∃ wo : World, wo = wr := ⟨_, rfl⟩
        obtain ⟨k, G, cg, hk, rfl, rfl, hno, hown, hbw⟩ := hrel
        have HNO := Lib.hid hno
        have hk' : k ≤ hs.length := by rw [← HCL.out]; exact hk
        clear hno hk
        by_cases hlt : k < hs.length
        · have i1 : (k : Int) < (hs.length : Int) := by omega
          have hrc := rb.up hbw
          have rc := hrc.card_at hlt
          have hcap := hrc.cap_at hlt
          have hlc : hs[k].xs.length ≤ 1048576 := by have := tot_at hs k hlt; omega
          have hkc : k < (cards hs).length := by rw [HCL.out]; exact hlt
          have HKC := Lib.hid hkc
          have HCA := Lib.hid (cards_at hs k hkc)
          have hjk : j ≤ hs[k].xs.length := by rw [← deckW_at H1.out hlt]; exact hjw
          obtain ⟨b1, o1, rfl, _, hcell⟩ := hrc.at_ hlt
          have kc := hcell k hlt
          have q4 := cell_later hbw k4
          have q5 := cell_later hbw k5
          have l2 := fun x : Later wo => lat_cell x q4
          have l3 := fun x : Later wo => lat_cell x q5
          have hbase := hbw.size
          clear hcell hrc
          rcases Bool.eq_false_or_eq_true (legalL (part hs[k].xs (i : Int) (j : Int))) with hm | hm
          · have HP := Lib.hid (any_take_succ (p := fun x => !legalL (part x (i : Int) (j : Int))) HKC.out HNO.out (by rw [HCA.out, hm]; rfl))
            have HM := Lib.hid hm
            obtain ⟨t, ht⟩ : ∃ t, t = textL (part hs[k].xs (i : Int) (j : Int)) := ⟨_, rfl⟩
            have HT := Lib.hid ht
            have HS := Lib.hid (show keysL ((cards hs).take (k + 1)) (i : Int) (j : Int) = keysL ((cards hs).take k) (i : Int) (j : Int) ++ [t] by rw [keysL_snoc _ _ _ k HKC.out, HCA.out, ht])
            clear ht hm
            go_wp2_with fail
            refine wp_region_later (by kernel_rfl) (by kernel_rfl) ?_
            repeat (go_big_quiet_step ((go_at_call 121; exact lat_call (l03Key_yes b1 (o1 + k) hs[k].a hs[k].c hs[k].xs i j t _ HT.out HM.out (lat_cell _ kc) (lat_rd _ rc) hij hjk hcap hlc))))
            refine wpQuiet_nil ?_
            intro w4 hb4
            have hownN := own_bs hown hb4
            have TB := bs hbw hb4
            have hbase4 := TB.size
            clear hown hb4 hbw rc
            go_wp2_with (at_builtin; refine wpList_ap rfl (.tmp 35) (.tmp 37) 105 rfl w2.heap.size 9 j0 _ 1 16 Try.underlying105 hj hj0 hj1 hj2 rfl (by omega) _ k _ (strs (keysL ((cards hs).take k) (i : Int) (j : Int))) rfl w4 hownN 1 #[.string (bs_ t)] w4.heap.size rfl rfl rfl (by intro v hv; simp at hv; subst hv; rfl) (by omega) (by omega) (by omega) hbase4 ?_; intro gg cap w6 hown6 hb6 hg6 _ _)
            have HO := Lib.hid (show w6.ownsRow w2.heap.size 9 1 (.slice (some ⟨gg, 0, none⟩) (k + 1) cap) (k + 1) (strs (keysL ((cards hs).take (k + 1)) (i : Int) (j : Int))) by rw [HS.out, strs_snoc]; exact hown6)
            have HB := Lib.hid (TB.trans hb6)
            clear hown6 hownN hb6 hg6 TB
            go_wp2
            go_roundw
            case rel =>
              have P : KyR (cards hs) i j w2 w6 (.slice (some ⟨gg, 0, none⟩) (k + 1) cap) (.int .i64 ((k : Int) + 1)) := ⟨k + 1, some ⟨gg, 0, none⟩, cap, by have := HKC.out; omega, by go_num, rfl, HP.out, HO.out, HB.out⟩
              first | exact P | exact ⟨_, P, rfl⟩ | exact ⟨_, _, P, rfl, rfl⟩ | exact ⟨_, _, _, P, rfl, rfl, rfl⟩ | exact ⟨_, _, _, _, P, rfl, rfl, rfl, rfl⟩ | exact ⟨_, _, _, _, _, P, rfl, rfl, rfl, rfl, rfl⟩ | exact ⟨_, _, _, _, _, _, P, rfl, rfl, rfl, rfl, rfl, rfl⟩ | exact ⟨_, _, _, _, _, _, _, P, rfl, rfl, rfl, rfl, rfl, rfl, rfl⟩ | exact ⟨_, _, _, _, _, _, _, _, P, rfl, rfl, rfl, rfl, rfl, rfl, rfl, rfl⟩
            case measure => simp [intOf]; omega
          · have HM := Lib.hid hm
            have HV := Lib.hid (show haveF (cards hs) (i : Int) (j : Int) = false from List.all_eq_false.2 ⟨(cards hs)[k]'HKC.out, List.getElem_mem HKC.out, by rw [HCA.out, hm]; simp⟩)
            have HC := Lib.hid (codeK_8 H1.out H2.out HV.out)
            have HR := Lib.hid (keysRes_1 (L := cards hs) (a := (i : Int)) (b := (j : Int)) (by rw [HC.out]; decide))
            clear hm
            go_wp2_with fail
            refine wp_region_later (by kernel_rfl) (by kernel_rfl) ?_
            repeat (go_big_quiet_step ((go_at_call 121; exact lat_call (l03Key_no b1 (o1 + k) hs[k].a hs[k].c hs[k].xs i j _ HM.out (lat_cell _ kc) (lat_rd _ rc) hij hjk hcap hlc))))
            refine wpQuiet_nil ?_
            intro w4 hb4
            go_wp2
            go_ret2
            refine ⟨none, 0, ret_kk HC.out.symm (by rw [HR.out]; rfl), ?_, bs T2 (bs hbw hb4)⟩
            rw [HR.out]
            exact World.ownsRow_nil _ _ _ _
        · obtain rfl : k = hs.length := by omega
          have HTK := Lib.hid (show (cards hs).take hs.length = cards hs from List.take_of_length_le (by rw [HCL.out]; omega))
          have HV := Lib.hid (show haveF (cards hs) (i : Int) (j : Int) = true by
            have h1 := HNO.out
            rw [HTK.out, any_not_allI] at h1
            simpa [haveF] using h1)
          have HC := Lib.hid (codeK_0 H1.out H2.out HV.out)
          have HR := Lib.hid (keysRes_0 HC.out)
          have HL := Lib.hid (show hs.length = (keysRes (cards hs) (i : Int) (j : Int)).length by rw [HR.out, keysL_length, HCL.out])
          have HO := Lib.hid (show wo.ownsRow w.heap.size 9 1 (.slice G hs.length cg) hs.length (strs (keysRes (cards hs) (i : Int) (j : Int))) by
            rw [HR.out]
            have h1 := hown
            rw [HTK.out] at h1
            exact own_base h1 T2.size)
          clear hown
          go_wp2
          go_ret2
          refine ⟨G, cg, ret_kk HC.out.symm HL.out, ?_, bs T2 hbw⟩
          rw [← HL.out]
          exact HO.out
    · have HC := Lib.hid (codeK_2 h1 h2)
      have HR := Lib.hid (keysRes_1 (L := cards hs) (a := a) (b := b) (by rw [HC.out]; decide))
      go_enter Try.func124, Try.ntmps124
      go_wp2_with fail
      refine (l02Deck_any _ _ hs _ ra hl).mono ?_; rintro e w1 ⟨rfl, hb1⟩
      have k2 : w1.cell? ⟨w.heap.size, 0, none⟩ = some (.int .i64 a) := cell_later hb1 (cell_new rfl rfl)
      have k3 : w1.cell? ⟨w.heap.size, 1, none⟩ = some (.int .i64 b) := cell_later hb1 (cell_new rfl rfl)
      have l2 := fun x : Later w1 => lat_cell x k2
      have l3 := fun x : Later w1 => lat_cell x k3
      have hra := ra.up hb1
      have T1 := bs T0 hb1
      clear hb1 ra
      go_wp2_with fail
      refine wp_region_later (by kernel_rfl) (by kernel_rfl) ?_
      repeat (go_big_quiet_step ((first | (go_at_call 221; exact lat_pure (l07Width_any _ _ hs _ (hra.up (Later.below _)) hl)) | (go_at_call 120; exact lat_call (l02Field_any _ _ _ _)))))
      refine wpQuiet_nil ?_
      intro w2 hb2
      go_wp2
      go_ret2
      refine ⟨none, 0, ret_kk HC.out.symm (by rw [HR.out]; rfl), ?_, bs T1 hb2⟩
      rw [HR.out]
      exact World.ownsRow_nil _ _ _ _
  · have HC := Lib.hid (codeK_1 (a := a) (b := b) h1)
    have HR := Lib.hid (keysRes_1 (L := cards hs) (a := a) (b := b) (by rw [HC.out]; decide))
    go_enter Try.func124, Try.ntmps124
    go_wp2_with fail
    refine (l02Deck_any _ _ hs _ ra hl).mono ?_; rintro e w1 ⟨rfl, hb1⟩
    go_wp2
    go_ret2
    refine ⟨none, 0, ret_kk HC.out.symm (by rw [HR.out]; rfl), ?_, bs T0 hb1⟩
    rw [HR.out]
    exact World.ownsRow_nil _ _ _ _

theorem l03Compare_z (s t : List UInt8) (z : Int) (w : World) (hz : z = cmpT s t) (hst : s.length = t.length) (hl : s.length ≤ 1048576) :
    Calls Try.prog 122 #[.string (bs_ s), .string (bs_ t)] w fun e w' => e = .returned (.int .i64 z) ∧ w = w' := by
  subst hz
  exact l03Compare_l s t w hst hl
set_option maxHeartbeats 2000000 in
theorem l07Step_any (K : Option Addr) (ck n : Nat) (L : List (List Int)) (i j : Nat) (w : World) (hn : L.length = n) (hok : deckOk L = true) (hij : i < j) (hj : j ≤ deckW L) (hv : haveF L (i : Int) (j : Int) = true) (ha : Rd w w.heap.size 1 K n (strs (keysL L (i : Int) (j : Int)))) :
    Calls Try.prog 135 #[.slice K n ck] w fun e w' => e = .returned (.int .i64 (stepF L (i : Int) (j : Int) n)) ∧ Below w.heap.size w w' := by
  have HN := Lib.hid hn
  have HOK := Lib.hid hok
  have HV := Lib.hid hv
  have h40 : n ≤ 40 := by rw [← hn]; exact deckOk_len hok
  have hj20 : j ≤ 20 := Nat.le_trans hj (deckOk_wid hok).1
  clear hn hok hv
  go_enter Try.func135, Try.ntmps135
  go_wp2
  go_loopw [3] (fun q wr => ∃ k : Nat, 1 ≤ k ∧ k ≤ 41 ∧ q = .int .i64 k ∧ stepsL L (i : Int) (j : Int) (min k n) = [] ∧ Below w.heap.size w wr) (fun q _ => n + 1 - (intOf q).toNat)
  case atStart =>
    refine ⟨1, by omega, by omega, rfl, ?_, b0 _⟩
    rcases Nat.eq_zero_or_pos n with h0 | h0
    · rw [h0]; simp [stepsL_zero]
    · rw [Nat.min_eq_left (by omega), stepsL_one]
  case round =>
    obtain ⟨k, hk1, hk41, rfl, hno, hbw⟩ := hrel
    have HNO := Lib.hid hno
    clear hno
    by_cases hlt : k < n
    · have hkL : k < L.length := by rw [HN.out]; exact hlt
      have hk1L : k - 1 < L.length := by omega
      obtain ⟨s, hs⟩ : ∃ s, s = textL (part L[k] (i : Int) (j : Int)) := ⟨_, rfl⟩
      obtain ⟨t, ht⟩ : ∃ t, t = textL (part L[k - 1] (i : Int) (j : Int)) := ⟨_, rfl⟩
      obtain ⟨z, hz⟩ : ∃ z, z = cmpT s t := ⟨_, rfl⟩
      have HZ := Lib.hid hz
      have HZC := Lib.hid (show z = cmpC L (i : Int) (j : Int) k (k - 1) by rw [hz, hs, ht, keysL_cmp HV.out hkL hk1L])
      have HST := Lib.hid (show s.length = t.length by rw [hs, ht, textL_length, textL_length, (part_deck HOK.out hij hj hkL).1, (part_deck HOK.out hij hj hk1L).1])
      have HSL := Lib.hid (show s.length ≤ 1048576 by rw [hs, textL_length, (part_deck HOK.out hij hj hkL).1]; omega)
      obtain ⟨b1, o1, rfl, hbb, hc⟩ := ha.at_ hlt
      have d1 := cell_later hbw (hc k _ (strs_get _ k (by rw [keysL_length]; exact hkL)))
      have d2 := cell_later hbw (hc (k - 1) _ (strs_get _ (k - 1) (by rw [keysL_length]; exact hk1L)))
      rw [keysL_at _ _ _ _ hkL, ← hs] at d1
      rw [keysL_at _ _ _ _ hk1L, ← ht] at d2
      have l1 := fun x : Later wr => lat_cell x d1
      have l2 := fun x : Later wr => lat_cell x d2
      have HMIN := Lib.hid (show min k n = k by omega)
      have HMIN2 := Lib.hid (show min (k + 1) n = k + 1 by omega)
      have i1 : (k : Int) < (n : Int) := by omega
      have i2 : ((k - 1 : Nat) : Int) < (n : Int) := by omega
      have hw1 : IntKind.i64.wrap ((k : Int) - 1) = ((k - 1 : Nat) : Int) := by rw [IntWalk.i64_in _ (by omega)]; omega
      clear hs ht hz hc d1 d2 hkL hk1L
      by_cases hp : z < 0
      · have HR := Lib.hid (stepF_hit (by have := HNO.out; rwa [HMIN.out] at this) hk1 hlt (by rw [← HZC.out]; exact hp))
        go_wp2_with fail
        refine wp_region_later (by kernel_rfl) (by kernel_rfl) ?_
        repeat (go_big_quiet_step ((go_at_call 122; exact lat_pure (l03Compare_z s t z _ HZ.out HST.out HSL.out))))
        refine wpQuiet_nil ?_
        intro w4 hb4
        clear hw1
        go_wp2
        go_ret
        exact ⟨ret_int HR.out.symm, bs hbw hb4⟩
      · have HR := Lib.hid (show stepsL L (i : Int) (j : Int) (min (k + 1) n) = [] by rw [HMIN2.out, stepsL_no (by rw [← HZC.out]; exact hp)]; have := HNO.out; rwa [HMIN.out] at this)
        go_wp2_with fail
        refine wp_region_later (by kernel_rfl) (by kernel_rfl) ?_
        repeat (go_big_quiet_step ((go_at_call 122; exact lat_pure (l03Compare_z s t z _ HZ.out HST.out HSL.out))))
        refine wpQuiet_nil ?_
        intro w4 hb4
        clear hw1
        go_wp2
        go_roundw
        case rel => exact ⟨k + 1, by omega, by omega, by go_num, HR.out, bs hbw hb4⟩
        case measure => simp [intOf]; omega
    · have HR := Lib.hid (stepF_none (by have := HNO.out; rwa [show min k n = n by omega] at this))
      go_wp2
      go_ret
      exact ⟨ret_int HR.out.symm, hbw⟩
end Go.Proofs.Ytdppmlchabogaaa

/-! ### Steps and groups; IsSorted, FirstStep; in the program and in the reference. -/
namespace Go.Proofs.Ytdppmlchabogaaa
open Go.RowKit

theorem ret_bk {p q : Bool} {a b : Int} (h : p = q) (k : a = b) : Ending.returned (.tuple #[.bool p, .int .i64 a]) = .returned (.tuple #[.bool q, .int .i64 b]) := by rw [h, k]
theorem ret_ik {a b c d : Int} (h : a = b) (k : c = d) : Ending.returned (.tuple #[.int .i64 a, .int .i64 c]) = .returned (.tuple #[.int .i64 b, .int .i64 d]) := by rw [h, k]
theorem beq_zero_dec (n : Nat) : ((n : Int) == 0) = decide (n = 0) := by
  rw [Bool.eq_iff_iff]
  simp
theorem info_i64K : (Try.prog.info? 2).map (fun i => (i.zero, i.size, i.bytes)) = some (some (.int .i64 0), 1, 8) := by kernel_rfl
theorem compareFields_z (A B : Option Addr) (c d : Nat) (xs ys : List Int) (i j : Nat) (z : Int) (w : World) (hz : z = cmpR (part xs (i : Int) (j : Int)) (part ys (i : Int) (j : Int))) (ha : Rd w w.heap.size 1 A xs.length (ints xs)) (hb : Rd w w.heap.size 1 B ys.length (ints ys)) (hij : i < j) (hj : j ≤ xs.length) (hj' : j ≤ ys.length) (hl : xs.length ≤ 1048576) (hl' : ys.length ≤ 1048576)
    (hc : xs.length ≤ c) (hd : ys.length ≤ d) :
    Calls Try.prog 219 #[.agg #[.slice A xs.length c], .agg #[.slice B ys.length d], .agg #[.int .i64 (i : Int), .int .i64 (j : Int)]] w fun e w' => e = .returned (.int .i64 z) ∧ Below w.heap.size w w' := by
  subst hz
  exact compareFields_any A B c d xs ys i j w ha hb hij hj hj' hl hl' hc hd
/-- Behind the cards before k. -/
def StR (L : List (List Int)) (i j : Nat) (w wr : World) (o q : Value) : Prop := ∃ (k : Nat) (g cg : Nat), 1 ≤ k ∧ k ≤ 41 ∧ q = .int .i64 k ∧ o = .slice (some ⟨g, 0, none⟩) (stepsL L (i : Int) (j : Int) (min k L.length)).length cg ∧
  wr.ownsRow w.heap.size 2 1 (.slice (some ⟨g, 0, none⟩) (stepsL L (i : Int) (j : Int) (min k L.length)).length cg) (stepsL L (i : Int) (j : Int) (min k L.length)).length (ints (stepsL L (i : Int) (j : Int) (min k L.length))) ∧ Below w.heap.size w wr

set_option maxRecDepth 20000 in
set_option maxHeartbeats 4000000 in
theorem steps_any (D : Option Addr) (c : Nat) (hs : List Hd) (i j : Nat) (w : World) (ha : RdD w w.heap.size D hs) (hok : deckOk (cards hs) = true) (hij : i < j) (hj : j ≤ deckW (cards hs)) (hl : hs.length + tot hs ≤ 1048576) :
    Calls Try.prog 123 #[.slice D hs.length c, .agg #[.int .i64 (i : Int), .int .i64 (j : Int)]] w fun e w' => ∃ G cg, e = .returned (.slice G (stepsL (cards hs) (i : Int) (j : Int) hs.length).length cg) ∧
      w'.ownsRow w.heap.size 2 1 (.slice G (stepsL (cards hs) (i : Int) (j : Int) hs.length).length cg) (stepsL (cards hs) (i : Int) (j : Int) hs.length).length (ints (stepsL (cards hs) (i : Int) (j : Int) hs.length)) ∧ Below w.heap.size w w' := by
  obtain ⟨j0, hj0', hj0, hj1, hj2⟩ := info_parts info_i64K
  have HCL := Lib.hid (cards_length hs)
  have HOK := Lib.hid hok
  have h40 : hs.length ≤ 40 := by have := deckOk_len hok; rwa [cards_length] at this
  have T0 : Below w.heap.size w (w.alloc (.cells #[.int .i64 (i : Int), .int .i64 (j : Int)] 27)) := ba (b0 w) _
  have ra := ha.a1 (.cells #[.int .i64 (i : Int), .int .i64 (j : Int)] 27)
  obtain ⟨W, hW⟩ : ∃ W, W = w.alloc (.cells #[.int .i64 (i : Int), .int .i64 (j : Int)] 27) := ⟨_, rfl⟩
  have k2 : W.cell? ⟨w.heap.size, 0, none⟩ = some (.int .i64 (i : Int)) := by rw [hW]; exact cell_new rfl rfl
  have k3 : W.cell? ⟨w.heap.size, 1, none⟩ = some (.int .i64 (j : Int)) := by rw [hW]; exact cell_new rfl rfl
  rw [← hW] at T0 ra
  have HW := Lib.hid hW
  have HWS := Lib.hid (show W.heap.size = w.heap.size + 1 by rw [hW]; simp)
  clear hW hok
  go_enter Try.func123, Try.ntmps123
  go_wp2
  rw [← HW.out]
  go_loopw [5, 6] (fun o q wr => StR (cards hs) i j W wr o q) (fun _ q _ => hs.length + 1 - (intOf q).toNat)
  case atStart =>
    have h0 : stepsL (cards hs) (i : Int) (j : Int) (min 1 (cards hs).length) = [] := by
      rcases Nat.eq_zero_or_pos (cards hs).length with h0 | h0
      · rw [h0]; simp [stepsL_zero]
      · rw [Nat.min_eq_left (by omega), stepsL_one]
    refine ⟨1, w.heap.size + 1, 0, by omega, by omega, rfl, by rw [h0]; rfl, ?_, ba (b0 W) (.cells #[] 2)⟩
    rw [h0]
    exact own_lit W #[] 0 HWS.out.symm (Nat.le_refl _) (by omega) rfl
  case round =>
    obtain ⟨wo, rfl⟩ : ∃ wo : World, wo = wr := ⟨_, rfl⟩
    obtain ⟨k, g, cg, hk1, hk41, rfl, rfl, hown, hbw⟩ := hrel
    by_cases hlt : k < hs.length
    · have hltp : k - 1 < hs.length := by omega
      have hkL : k < (cards hs).length := by rw [HCL.out]; exact hlt
      have HMIN := Lib.hid (show min k (cards hs).length = k by omega)
      have HMIN2 := Lib.hid (show min (k + 1) (cards hs).length = k + 1 by omega)
      rw [HMIN.out] at hown ⊢
      have hsl := stepsL_len (cards hs) (i : Int) (j : Int) k
      have hrc := ra.up hbw
      have rc := hrc.card_at hlt
      have rc' := hrc.card_at hltp
      have hcap := hrc.cap_at hlt
      have hcap' := hrc.cap_at hltp
      have hlc : hs[k].xs.length ≤ 1048576 := by have := tot_at hs k hlt; omega
      have hlc' : hs[k - 1].xs.length ≤ 1048576 := by have := tot_at hs (k - 1) hltp; omega
      have hjk : j ≤ hs[k].xs.length := by rw [← deckW_at HOK.out hlt]; exact hj
      have hjk' : j ≤ hs[k - 1].xs.length := by rw [← deckW_at HOK.out hltp]; exact hj
      obtain ⟨z, hz⟩ : ∃ z, z = cmpR (part hs[k].xs (i : Int) (j : Int)) (part hs[k - 1].xs (i : Int) (j : Int)) := ⟨_, rfl⟩
      have HZ := Lib.hid hz
      have HZC := Lib.hid (show z = cmpC (cards hs) (i : Int) (j : Int) k (k - 1) by rw [hz, cmpC_hd hlt hltp])
      obtain ⟨b1, o1, rfl, _, hcell⟩ := hrc.at_ hlt
      have d1 := hcell k hlt
      have d2 := hcell (k - 1) hltp
      have d3 := cell_later hbw k2
      have d4 := cell_later hbw k3
      have l1 := fun x : Later wo => lat_cell x d1
      have l2 := fun x : Later wo => lat_cell x d2
      have l3 := fun x : Later wo => lat_cell x d3
      have l4 := fun x : Later wo => lat_cell x d4
      have i1 : (k : Int) < (hs.length : Int) := by omega
      have i2 : ((k - 1 : Nat) : Int) < (hs.length : Int) := by omega
      have hw1 : IntKind.i64.wrap ((k : Int) - 1) = ((k - 1 : Nat) : Int) := by rw [IntWalk.i64_in _ (by omega)]; omega
      have hbase := hbw.size
      obtain ⟨ss, hss⟩ : ∃ ss, ss = stepsL (cards hs) (i : Int) (j : Int) k := ⟨_, rfl⟩
      rw [← hss] at hown hsl ⊢
      have HSS := Lib.hid hss
      clear hz hcell d1 d2 d3 d4 hss hkL hrc
      by_cases hp : z < 0
      · have HR := Lib.hid (show stepsL (cards hs) (i : Int) (j : Int) (min (k + 1) (cards hs).length) = ss ++ [(k : Int)] by rw [HMIN2.out, stepsL_yes hk1 (by rw [← HZC.out]; exact hp), HSS.out])
        go_wp2_with fail
        refine wp_region_later (by kernel_rfl) (by kernel_rfl) ?_
        repeat (go_big_quiet_step ((go_at_call 219; exact lat_call (compareFields_z _ _ _ _ hs[k].xs hs[k - 1].xs i j z _ HZ.out (lat_rd _ rc) (lat_rd _ rc') hij hjk hjk' hlc hlc' hcap hcap'))))
        refine wpQuiet_nil ?_
        intro w4 hb4
        have hownN := own_bs hown hb4
        have TB := bs hbw hb4
        have hbase4 := TB.size
        clear hw1 hown hb4 hbw rc rc' l1 l2 l3 l4
        go_wp2_with (at_builtin; refine wpList_ap rfl (.tmp 26) (.tmp 28) 29 rfl W.heap.size 2 j0 _ 1 8 Try.underlying29 hj0' hj0 hj1 hj2 rfl (by omega) _ ss.length _ (ints ss) rfl w4 hownN 1 #[.int .i64 (k : Int)] w4.heap.size rfl rfl rfl (by intro v hv; simp at hv; subst hv; rfl) (by omega) (by omega) (by omega) hbase4 ?_; intro gg cap w6 hown6 hb6 hg6 _ _)
        have HO := Lib.hid (show w6.ownsRow W.heap.size 2 1 (.slice (some ⟨gg, 0, none⟩) (ss.length + 1) cap) (ss.length + 1) (ints (ss ++ [(k : Int)])) by rw [ints_snoc]; exact hown6)
        have HB := Lib.hid (TB.trans hb6)
        clear hown6 hownN hb6 hg6 TB
        go_wp2
        go_roundw
        case rel =>
          have P : StR (cards hs) i j W w6 (.slice (some ⟨gg, 0, none⟩) (ss.length + 1) cap) (.int .i64 ((k : Int) + 1)) := ⟨k + 1, gg, cap, by omega, by omega, by go_num, by rw [HR.out, List.length_append]; rfl, by rw [HR.out, List.length_append]; exact HO.out, HB.out⟩
          first | exact P | exact ⟨_, P, rfl⟩ | exact ⟨_, _, P, rfl, rfl⟩ | exact ⟨_, _, _, P, rfl, rfl, rfl⟩ | exact ⟨_, _, _, _, P, rfl, rfl, rfl, rfl⟩ | exact ⟨_, _, _, _, _, P, rfl, rfl, rfl, rfl, rfl⟩ | exact ⟨_, _, _, _, _, _, P, rfl, rfl, rfl, rfl, rfl, rfl⟩ | exact ⟨_, _, _, _, _, _, _, P, rfl, rfl, rfl, rfl, rfl, rfl, rfl⟩ | exact ⟨_, _, _, _, _, _, _, _, P, rfl, rfl, rfl, rfl, rfl, rfl, rfl, rfl⟩
        case measure => simp [intOf]; omega
      · have HR := Lib.hid (show stepsL (cards hs) (i : Int) (j : Int) (min (k + 1) (cards hs).length) = ss by rw [HMIN2.out, stepsL_no (by rw [← HZC.out]; exact hp), HSS.out])
        go_wp2_with fail
        refine wp_region_later (by kernel_rfl) (by kernel_rfl) ?_
        repeat (go_big_quiet_step ((go_at_call 219; exact lat_call (compareFields_z _ _ _ _ hs[k].xs hs[k - 1].xs i j z _ HZ.out (lat_rd _ rc) (lat_rd _ rc') hij hjk hjk' hlc hlc' hcap hcap'))))
        refine wpQuiet_nil ?_
        intro w4 hb4
        have HO := Lib.hid (own_bs hown hb4)
        have HB := Lib.hid (bs hbw hb4)
        clear hw1 hown hb4 hbw rc rc' l1 l2 l3 l4
        go_wp2
        go_roundw
        case rel =>
          have P : StR (cards hs) i j W w4 (.slice (some ⟨g, 0, none⟩) ss.length cg) (.int .i64 ((k : Int) + 1)) := ⟨k + 1, g, cg, by omega, by omega, by go_num, by rw [HR.out], by rw [HR.out]; exact HO.out, HB.out⟩
          first | exact P | exact ⟨_, P, rfl⟩ | exact ⟨_, _, P, rfl, rfl⟩ | exact ⟨_, _, _, P, rfl, rfl, rfl⟩ | exact ⟨_, _, _, _, P, rfl, rfl, rfl, rfl⟩ | exact ⟨_, _, _, _, _, P, rfl, rfl, rfl, rfl, rfl⟩ | exact ⟨_, _, _, _, _, _, P, rfl, rfl, rfl, rfl, rfl, rfl⟩ | exact ⟨_, _, _, _, _, _, _, P, rfl, rfl, rfl, rfl, rfl, rfl, rfl⟩ | exact ⟨_, _, _, _, _, _, _, _, P, rfl, rfl, rfl, rfl, rfl, rfl, rfl, rfl⟩
        case measure => simp [intOf]; omega
    · have HMIN := Lib.hid (show min k (cards hs).length = hs.length by have := HCL.out; omega)
      rw [HMIN.out] at hown ⊢
      go_wp2
      go_ret
      exact ⟨_, cg, rfl, own_base hown T0.size, bs T0 hbw⟩

def srtRes (L : List (List Int)) (a b : Int) : Bool := if codeK L a b = 0 then decide ((stepsL L a b L.length).length = 0) else false
theorem srtRes_0 {L : List (List Int)} {a b : Int} (h : codeK L a b = 0) : srtRes L a b = decide ((stepsL L a b L.length).length = 0) := by unfold srtRes; rw [if_pos h]
theorem srtRes_1 {L : List (List Int)} {a b : Int} (h : codeK L a b ≠ 0) : srtRes L a b = false := by unfold srtRes; rw [if_neg h]
def fstRes (L : List (List Int)) (a b : Int) : Int := if codeK L a b = 0 then stepF L a b L.length else 0
theorem fstRes_0 {L : List (List Int)} {a b : Int} (h : codeK L a b = 0) : fstRes L a b = stepF L a b L.length := by unfold fstRes; rw [if_pos h]
theorem fstRes_1 {L : List (List Int)} {a b : Int} (h : codeK L a b ≠ 0) : fstRes L a b = 0 := by unfold fstRes; rw [if_neg h]

set_option maxHeartbeats 2000000 in
theorem IsSorted_any (D : Option Addr) (c : Nat) (hs : List Hd) (L : List (List Int)) (a b : Int) (w : World) (ha : RdD w w.heap.size D hs) (hL : cards hs = L) (hl : hs.length + tot hs ≤ 1048576) (_hc : hs.length ≤ c) :
    Calls Try.prog 20 #[.slice D hs.length c, .agg #[.int .i64 a, .int .i64 b]] w fun e w' => e = .returned (.tuple #[.bool (srtRes L a b), .int .i64 (codeK L a b)]) ∧ Below w.heap.size w w' := by
  subst hL
  have T0 : Below w.heap.size w (w.alloc (.cells #[.int .i64 a, .int .i64 b] 27)) := ba (b0 w) _
  have ra := ha.a1 (.cells #[.int .i64 a, .int .i64 b] 27)
  have HCL := Lib.hid (cards_length hs)
  by_cases hz : codeK (cards hs) a b = 0
  · obtain ⟨h1, h2, h3⟩ := codeK_zero hz
    obtain ⟨i, j, rfl, rfl, hij, hjw⟩ := fieldOk_nat h2
    have HZ := Lib.hid hz
    have H1 := Lib.hid h1
    have HR := Lib.hid (srtRes_0 hz)
    clear hz h1 h2 h3
    go_enter Try.func20, Try.ntmps20
    go_wp2_with fail
    refine (sortCode_any _ _ hs _ _ _ ra hl).mono ?_; rintro e w1 ⟨rfl, hb1⟩
    have k2 : w1.cell? ⟨w.heap.size, 0, none⟩ = some (.int .i64 (i : Int)) := cell_later hb1 (cell_new rfl rfl)
    have k3 : w1.cell? ⟨w.heap.size, 1, none⟩ = some (.int .i64 (j : Int)) := cell_later hb1 (cell_new rfl rfl)
    have e0 : codeK (cards hs) (i : Int) (j : Int) = 0 := HZ.out
    go_wp2_with fail
    refine (steps_any _ _ hs i j _ (ra.up hb1) H1.out hij hjw hl).mono ?_; rintro e w2 ⟨G, cg, rfl, hown, hb2⟩
    clear e0
    go_wp2
    go_ret2
    exact ⟨ret_bk (by rw [HR.out, HCL.out]; exact beq_zero_dec _) HZ.out.symm, bs (bs T0 hb1) hb2⟩
  · have HR := Lib.hid (srtRes_1 hz)
    go_enter Try.func20, Try.ntmps20
    go_wp2_with fail
    refine (sortCode_any _ _ hs _ _ _ ra hl).mono ?_; rintro e w1 ⟨rfl, hb1⟩
    go_wp2
    go_ret2
    exact ⟨ret_bk HR.out.symm rfl, bs T0 hb1⟩

theorem head_cell {l : List Int} (h : 0 < l.length) : (ints l)[0]? = some (.int .i64 (l.headD (-1))) := by
  cases l with
  | nil => simp at h
  | cons a l => simp [ints]
set_option maxHeartbeats 2000000 in
theorem FirstStep_any (D : Option Addr) (c : Nat) (hs : List Hd) (L : List (List Int)) (a b : Int) (w : World) (ha : RdD w w.heap.size D hs) (hL : cards hs = L) (hl : hs.length + tot hs ≤ 1048576) (_hc : hs.length ≤ c) :
    Calls Try.prog 21 #[.slice D hs.length c, .agg #[.int .i64 a, .int .i64 b]] w fun e w' => e = .returned (.tuple #[.int .i64 (fstRes L a b), .int .i64 (codeK L a b)]) ∧ Below w.heap.size w w' := by
  subst hL
  have T0 : Below w.heap.size w (w.alloc (.cells #[.int .i64 a, .int .i64 b] 27)) := ba (b0 w) _
  have ra := ha.a1 (.cells #[.int .i64 a, .int .i64 b] 27)
  have HCL := Lib.hid (cards_length hs)
  by_cases hz : codeK (cards hs) a b = 0
  · obtain ⟨h1, h2, h3⟩ := codeK_zero hz
    obtain ⟨i, j, rfl, rfl, hij, hjw⟩ := fieldOk_nat h2
    have HZ := Lib.hid hz
    have H1 := Lib.hid h1
    have HR := Lib.hid (fstRes_0 hz)
    have h40 : hs.length ≤ 40 := by have := deckOk_len h1; rwa [cards_length] at this
    have hsl := stepsL_len (cards hs) (i : Int) (j : Int) hs.length
    obtain ⟨ss, hss⟩ : ∃ ss, ss = stepsL (cards hs) (i : Int) (j : Int) hs.length := ⟨_, rfl⟩
    have HF := Lib.hid (show fstRes (cards hs) (i : Int) (j : Int) = ss.headD (-1) by rw [HR.out, HCL.out, hss]; rfl)
    have HCO := Lib.hid (steps_any D c hs i j)
    rw [← hss] at hsl HCO
    clear hz h1 h2 h3 hss
    by_cases hp : 0 < ss.length
    · have HC := Lib.hid (head_cell hp)
      go_enter Try.func21, Try.ntmps21
      go_wp2_with fail
      refine (sortCode_any _ _ hs _ _ _ ra hl).mono ?_; rintro e w1 ⟨rfl, hb1⟩
      have k2 : w1.cell? ⟨w.heap.size, 0, none⟩ = some (.int .i64 (i : Int)) := cell_later hb1 (cell_new rfl rfl)
      have k3 : w1.cell? ⟨w.heap.size, 1, none⟩ = some (.int .i64 (j : Int)) := cell_later hb1 (cell_new rfl rfl)
      have e0 : codeK (cards hs) (i : Int) (j : Int) = 0 := HZ.out
      go_wp2_with fail
      refine (HCO.out _ (ra.up hb1) H1.out hij hjw hl).mono ?_; rintro e w2 ⟨G, cg, rfl, hown, hb2⟩
      obtain ⟨b1, o1, rfl, _, hc1⟩ := (Rd.own hown).at_ hp
      have d1 := hc1 0 _ HC.out
      rw [Nat.add_zero] at d1
      have i0 : (0 : Int) < (ss.length : Int) := by omega
      clear hc1 hown e0 k2 k3
      go_wp2
      go_ret2
      exact ⟨ret_ik (by rw [HF.out]; cases ss <;> rfl) HZ.out.symm, bs (bs T0 hb1) hb2⟩
    · have HE := Lib.hid (show fstRes (cards hs) (i : Int) (j : Int) = -1 by rw [HF.out, show ss = [] from List.eq_nil_of_length_eq_zero (by omega)]; rfl)
      have hz0 : ss.length = 0 := by omega
      clear hp
      go_enter Try.func21, Try.ntmps21
      go_wp2_with fail
      refine (sortCode_any _ _ hs _ _ _ ra hl).mono ?_; rintro e w1 ⟨rfl, hb1⟩
      have k2 : w1.cell? ⟨w.heap.size, 0, none⟩ = some (.int .i64 (i : Int)) := cell_later hb1 (cell_new rfl rfl)
      have k3 : w1.cell? ⟨w.heap.size, 1, none⟩ = some (.int .i64 (j : Int)) := cell_later hb1 (cell_new rfl rfl)
      have e0 : codeK (cards hs) (i : Int) (j : Int) = 0 := HZ.out
      go_wp2_with fail
      refine (HCO.out _ (ra.up hb1) H1.out hij hjw hl).mono ?_; rintro e w2 ⟨G, cg, rfl, hown, hb2⟩
      clear e0
      go_wp2
      go_ret2
      exact ⟨ret_ik HE.out.symm HZ.out.symm, bs (bs T0 hb1) hb2⟩
  · have HR := Lib.hid (fstRes_1 hz)
    go_enter Try.func21, Try.ntmps21
    go_wp2_with fail
    refine (sortCode_any _ _ hs _ _ _ ra hl).mono ?_; rintro e w1 ⟨rfl, hb1⟩
    go_wp2
    go_ret2
    exact ⟨ret_ik HR.out.symm rfl, bs T0 hb1⟩

end Go.Proofs.Ytdppmlchabogaaa
