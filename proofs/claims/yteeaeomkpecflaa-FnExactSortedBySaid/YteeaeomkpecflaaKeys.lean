/- Fields of cards: their characters, their texts, comparing; in the program and in the reference. -/
import Derived.Test.YteeaeomkpecflaaRank
import Derived.Laws.IdiomStrings
namespace Go.Proofs.Yteeaeomkpecflaa
open Go.RowKit

theorem info_u8K : (Try.prog.info? 5).map (fun i => (i.zero, i.size, i.bytes)) = some (some (.int .u8 0), 1, 1) := by kernel_rfl
theorem info_strK : (Try.prog.info? 9).map (fun i => (i.zero, i.size, i.bytes)) = some (some (.string ⟨#[]⟩), 1, 16) := by kernel_rfl

set_option maxHeartbeats 1000000 in
theorem hasField_any (A : Option Addr) (c : Nat) (xs : List Int) (i j : Nat) (w : World) (ha : Rd w w.heap.size 1 A xs.length (ints xs)) (hij : i < j) (hj : j ≤ xs.length) (hl : xs.length ≤ 1048576) (hc : xs.length ≤ c) :
    Calls Try.prog 119 #[.agg #[.slice A xs.length c], .agg #[.int .i64 (i : Int), .int .i64 (j : Int)]] w fun e w' => e = .returned (.bool (legalL (part xs (i : Int) (j : Int)))) ∧ Below w.heap.size w w' := by
  obtain ⟨b, o, rfl, _, _⟩ := ha.at_ (show 0 < xs.length by omega)
  have hp := rd_part ((ha.a1 (.cells #[.slice (some ⟨b, o, none⟩) xs.length c] 46)).a1 (.cells #[.int .i64 (i : Int), .int .i64 (j : Int)] 31)) hij hj
  have HPL := Lib.hid (part_len hij hj)
  have ci : ¬ c = i := by omega
  have i1 : (i : Int) ≤ (j : Int) := by omega
  have i2 : (j : Int) ≤ (c : Int) := by omega
  go_enter Try.func119, Try.ntmps119
  go_wp2_with fail
  refine (hasCharacters_any (j - i) _ _ (part xs (i : Int) (j : Int)) _ HPL.out hp (by omega)).mono ?_; rintro e w1 ⟨rfl, hb1⟩
  go_wp2
  go_ret
  exact ⟨rfl, bs (ba (ba (b0 _) _) _) hb1⟩

theorem haveField1_any (bf : Nat) (A : Option Addr) (c : Nat) (xs : List Int) (i j : Nat) (w : World) (h1 : w.cell? ⟨bf, 0, none⟩ = some (.int .i64 (i : Int))) (h2 : w.cell? ⟨bf, 1, none⟩ = some (.int .i64 (j : Int)))
    (ha : Rd w w.heap.size 1 A xs.length (ints xs)) (hij : i < j) (hj : j ≤ xs.length) (hl : xs.length ≤ 1048576) (hc : xs.length ≤ c) :
    Calls Try.prog 118 #[.agg #[.slice A xs.length c], .pointer (some ⟨bf, 0, none⟩)] w fun e w' => e = .returned (.bool (!legalL (part xs (i : Int) (j : Int)))) ∧ Below w.heap.size w w' := by
  have k1 := cell_alloc h1 (.cells #[.slice A xs.length c] 46)
  have k2 := cell_alloc h2 (.cells #[.slice A xs.length c] 46)
  have ha1 := ha.a1 (.cells #[.slice A xs.length c] 46)
  clear h1 h2 ha
  go_enter Try.func118, Try.ntmps118
  go_wp2_with fail
  refine (hasField_any _ _ xs i j _ ha1 hij hj hl hc).mono ?_; rintro e w1 ⟨rfl, hb1⟩
  go_wp2
  go_ret
  exact ⟨rfl, bs (ba (b0 _) _) hb1⟩
theorem haveF_any (L : List (List Int)) (a b : Int) : (!(L.any fun x => !legalL (part x a b))) = haveF L a b := by
  rw [any_not_allI]
  simp [haveF]
theorem haveField_any (D : Option Addr) (c : Nat) (hs : List Hd) (i j : Nat) (w : World) (ha : RdD w w.heap.size D hs) (hok : deckOk (cards hs) = true) (hij : i < j) (hj : j ≤ deckW (cards hs)) (hl : hs.length + tot hs ≤ 1048576) :
    Calls Try.prog 82 #[.slice D hs.length c, .agg #[.int .i64 (i : Int), .int .i64 (j : Int)]] w fun e w' => e = .returned (.bool (haveF (cards hs) (i : Int) (j : Int))) ∧ Below w.heap.size w w' := by
  have ha2 := ha.a1 (.cells #[.int .i64 (i : Int), .int .i64 (j : Int)] 31)
  have c1 : World.cell? (w.alloc (.cells #[.int .i64 (i : Int), .int .i64 (j : Int)] 31)) ⟨w.heap.size, 0, none⟩ = some (.int .i64 (i : Int)) := cell_new rfl rfl
  have c2 : World.cell? (w.alloc (.cells #[.int .i64 (i : Int), .int .i64 (j : Int)] 31)) ⟨w.heap.size, 1, none⟩ = some (.int .i64 (j : Int)) := cell_new rfl rfl
  have hcon := Lib.hid (ContainsFuncCard_any D c hs 118 #[.pointer (some ⟨w.heap.size, 0, none⟩)] (fun x => !legalL (part x (i : Int) (j : Int))) _ ha2 (by omega) Try.call118
    (fun h hh w' hbk => by
      obtain ⟨k, hk, rfl⟩ := List.mem_iff_getElem.1 hh
      have hra := ha2.up hbk
      have hlk := tot_at hs k hk
      exact haveField1_any _ _ _ _ i j w' (cell_later hbk c1) (cell_later hbk c2) (hra.card_at hk) hij (by rw [← deckW_at hok hk]; exact hj) (by omega) (hra.cap_at hk)))
  clear ha2 c1 c2
  have HA := Lib.hid (haveF_any (cards hs) (i : Int) (j : Int))
  obtain ⟨q, hq⟩ : ∃ q, q = (cards hs).any (fun x => !legalL (part x (i : Int) (j : Int))) := ⟨_, rfl⟩
  rw [← hq] at hcon HA
  clear hq
  go_enter Try.func82, Try.ntmps82
  go_wp2_with fail
  refine hcon.out.mono ?_; rintro e w1 ⟨rfl, hb1⟩
  go_wp2
  go_ret
  exact ⟨ret_bool HA.out, bs (ba (b0 _) _) hb1⟩

theorem compareHoles_q (n : Nat) (A B : Option Addr) (c d : Nat) (xs ys : List Int) (z : Int) (w : World) (hz : z = cmpR xs ys) (hn : xs.length = n) (hm : ys.length = n) (ha : Rd w w.heap.size 1 A n (ints xs)) (hb : Rd w w.heap.size 1 B n (ints ys)) (hl : n ≤ 1048576) :
    Calls Try.prog 133 #[.slice A n c, .slice B n d] w fun e w' => e = .returned (.int .i64 z) ∧ Below w.heap.size w w' := by
  subst hz
  exact compareHoles_any n n A B c d xs ys w hn hm rfl ha hb hl
set_option maxHeartbeats 2000000 in
theorem compareFields_any (A B : Option Addr) (c d : Nat) (xs ys : List Int) (i j : Nat) (w : World) (ha : Rd w w.heap.size 1 A xs.length (ints xs)) (hb : Rd w w.heap.size 1 B ys.length (ints ys)) (hij : i < j) (hj : j ≤ xs.length) (hj' : j ≤ ys.length) (hl : xs.length ≤ 1048576) (hl' : ys.length ≤ 1048576)
    (hc : xs.length ≤ c) (hd : ys.length ≤ d) :
    Calls Try.prog 104 #[.agg #[.slice A xs.length c], .agg #[.slice B ys.length d], .agg #[.int .i64 (i : Int), .int .i64 (j : Int)]] w fun e w' => e = .returned (.int .i64 (cmpR (part xs (i : Int) (j : Int)) (part ys (i : Int) (j : Int)))) ∧ Below w.heap.size w w' := by
  obtain ⟨b1, o1, rfl, _, _⟩ := ha.at_ (show 0 < xs.length by omega)
  obtain ⟨b2, o2, rfl, _, _⟩ := hb.at_ (show 0 < ys.length by omega)
  have T0 : Below w.heap.size w (((w.alloc (.cells #[.slice (some ⟨b1, o1, none⟩) xs.length c] 46)).alloc (.cells #[.slice (some ⟨b2, o2, none⟩) ys.length d] 46)).alloc (.cells #[.int .i64 (i : Int), .int .i64 (j : Int)] 31)) := ba (ba (ba (b0 w) _) _) _
  have ra := ((ha.a1 (.cells #[.slice (some ⟨b1, o1, none⟩) xs.length c] 46)).a1 (.cells #[.slice (some ⟨b2, o2, none⟩) ys.length d] 46)).a1 (.cells #[.int .i64 (i : Int), .int .i64 (j : Int)] 31)
  have rb := ((hb.a1 (.cells #[.slice (some ⟨b1, o1, none⟩) xs.length c] 46)).a1 (.cells #[.slice (some ⟨b2, o2, none⟩) ys.length d] 46)).a1 (.cells #[.int .i64 (i : Int), .int .i64 (j : Int)] 31)
  obtain ⟨W, hW⟩ : ∃ W, W = (((w.alloc (.cells #[.slice (some ⟨b1, o1, none⟩) xs.length c] 46)).alloc (.cells #[.slice (some ⟨b2, o2, none⟩) ys.length d] 46)).alloc (.cells #[.int .i64 (i : Int), .int .i64 (j : Int)] 31)) := ⟨_, rfl⟩
  have k1 : W.cell? ⟨w.heap.size, 0, none⟩ = some (.slice (some ⟨b1, o1, none⟩) xs.length c) := by rw [hW]; exact cell_alloc (cell_alloc (cell_new rfl rfl) _) _
  have k2 : W.cell? ⟨w.heap.size + 1, 0, none⟩ = some (.slice (some ⟨b2, o2, none⟩) ys.length d) := by rw [hW]; exact cell_alloc (cell_new (by simp) rfl) _
  have k3 : W.cell? ⟨w.heap.size + 1 + 1, 0, none⟩ = some (.int .i64 (i : Int)) := by rw [hW]; exact cell_new (by simp) rfl
  have k4 : W.cell? ⟨w.heap.size + 1 + 1, 1, none⟩ = some (.int .i64 (j : Int)) := by rw [hW]; exact cell_new (by simp) rfl
  rw [← hW] at ra rb T0
  have pa := rd_part ra hij hj
  have pb := rd_part rb hij hj'
  have HPA := Lib.hid (part_len hij hj)
  have HPB := Lib.hid (part_len hij hj')
  have HW := Lib.hid hW
  have ci : ¬ c = i := by omega
  have di : ¬ d = i := by omega
  have i1 : (i : Int) ≤ (j : Int) := by omega
  have i2 : (j : Int) ≤ (c : Int) := by omega
  have i3 : (j : Int) ≤ (d : Int) := by omega
  obtain ⟨z, hz⟩ : ∃ z, z = cmpR (part xs (i : Int) (j : Int)) (part ys (i : Int) (j : Int)) := ⟨_, rfl⟩
  have HZ := Lib.hid hz
  have l1 := fun x : Later W => lat_cell x k1
  have l2 := fun x : Later W => lat_cell x k2
  have l3 := fun x : Later W => lat_cell x k3
  have l4 := fun x : Later W => lat_cell x k4
  clear hz hW k1 k2 k3 k4 ra rb ha hb
  go_enter Try.func104, Try.ntmps104
  go_wp2_with fail
  rw [← HW.out]
  refine wp_region_later (by kernel_rfl) (by kernel_rfl) ?_
  repeat (go_big_quiet_step ((go_at_call 133; exact lat_call (compareHoles_q (j - i) _ _ _ _ (part xs (i : Int) (j : Int)) (part ys (i : Int) (j : Int)) z _ HZ.out HPA.out HPB.out (lat_rd _ pa) (lat_rd _ pb) (by omega)))))
  refine wpQuiet_nil ?_
  intro w4 hb4
  go_wp2
  go_ret
  exact ⟨ret_int HZ.out, bs T0 hb4⟩

theorem codeK_z {L : List (List Int)} {a b : Int} {q : Bool} (h : deckOk L = true) (h2 : fieldOk a b (deckW L : Int) = true) (h3 : haveF L a b = q) : codeK L a b = if q = true then 0 else 8 := by unfold codeK; rw [if_pos h, if_pos h2, h3]
set_option maxHeartbeats 2000000 in
theorem sortCode_any (D : Option Addr) (c : Nat) (hs : List Hd) (a b : Int) (w : World) (ha : RdD w w.heap.size D hs) (hl : hs.length + tot hs ≤ 1048576) :
    Calls Try.prog 58 #[.slice D hs.length c, .agg #[.int .i64 a, .int .i64 b]] w fun e w' => e = .returned (.int .i64 (codeK (cards hs) a b)) ∧ Below w.heap.size w w' := by
  have T0 : Below w.heap.size w (w.alloc (.cells #[.int .i64 a, .int .i64 b] 31)) := ba (b0 w) _
  have ra := ha.a1 (.cells #[.int .i64 a, .int .i64 b] 31)
  rcases Bool.eq_false_or_eq_true (deckOk (cards hs)) with h1 | h1
  · have H1 := Lib.hid h1
    rcases Bool.eq_false_or_eq_true (fieldOk a b (deckW (cards hs) : Int)) with h2 | h2
    · obtain ⟨i, j, rfl, rfl, hij, hjw⟩ := fieldOk_nat h2
      rcases Bool.eq_false_or_eq_true (haveF (cards hs) (i : Int) (j : Int)) with h3 | h3
      all_goals
        have HC := Lib.hid (codeK_z h1 h2 h3)
        go_enter Try.func58, Try.ntmps58
        go_wp2_with fail
        refine (ValidDeck_any _ _ hs _ ra hl).mono ?_; rintro e w1 ⟨rfl, hb1⟩
        have k2 : w1.cell? ⟨w.heap.size, 0, none⟩ = some (.int .i64 (i : Int)) := cell_later hb1 (cell_new rfl rfl)
        have k3 : w1.cell? ⟨w.heap.size, 1, none⟩ = some (.int .i64 (j : Int)) := cell_later hb1 (cell_new rfl rfl)
        have l2 := fun x : Later w1 => lat_cell x k2
        have l3 := fun x : Later w1 => lat_cell x k3
        have hra := ra.up hb1
        have T1 := bs T0 hb1
        clear hb1
        go_wp2_with fail
        refine wp_region_later (by kernel_rfl) (by kernel_rfl) ?_
        repeat (go_big_quiet_step ((first | (go_at_call 66; exact lat_call (deckColumns_any _ _ hs _ (hra.up (Later.below _)) hl)) | (go_at_call 80; exact lat_call (isField_any _ _ _ _)))))
        refine wpQuiet_nil ?_
        intro w2 hb2
        have k4 := cell_later hb2 k2
        have k5 := cell_later hb2 k3
        clear k2 k3 l2 l3
        go_wp2_with fail
        refine (haveField_any _ _ hs i j _ (hra.up hb2) H1.out hij hjw hl).mono ?_; rintro e w3 ⟨rfl, hb3⟩
        go_wp2
        go_ret
        exact ⟨ret_int (by rw [HC.out]; simp), bs (bs T1 hb2) hb3⟩
    · have HC := Lib.hid (codeK_2 h1 h2)
      go_enter Try.func58, Try.ntmps58
      go_wp2_with fail
      refine (ValidDeck_any _ _ hs _ ra hl).mono ?_; rintro e w1 ⟨rfl, hb1⟩
      have k2 : w1.cell? ⟨w.heap.size, 0, none⟩ = some (.int .i64 a) := cell_later hb1 (cell_new rfl rfl)
      have k3 : w1.cell? ⟨w.heap.size, 1, none⟩ = some (.int .i64 b) := cell_later hb1 (cell_new rfl rfl)
      have l2 := fun x : Later w1 => lat_cell x k2
      have l3 := fun x : Later w1 => lat_cell x k3
      have hra := ra.up hb1
      have T1 := bs T0 hb1
      clear hb1
      go_wp2_with fail
      refine wp_region_later (by kernel_rfl) (by kernel_rfl) ?_
      repeat (go_big_quiet_step ((first | (go_at_call 66; exact lat_call (deckColumns_any _ _ hs _ (hra.up (Later.below _)) hl)) | (go_at_call 80; exact lat_call (isField_any _ _ _ _)))))
      refine wpQuiet_nil ?_
      intro w2 hb2
      go_wp2
      go_ret
      exact ⟨ret_int HC.out.symm, bs T1 hb2⟩
  · have HC := Lib.hid (codeK_1 (a := a) (b := b) h1)
    go_enter Try.func58, Try.ntmps58
    go_wp2_with fail
    refine (ValidDeck_any _ _ hs _ ra hl).mono ?_; rintro e w1 ⟨rfl, hb1⟩
    go_wp2
    go_ret
    exact ⟨ret_int HC.out.symm, bs T0 hb1⟩

/-! ### the reference's texts -/
def byts (s : List UInt8) : List Value := s.map fun b => .int .u8 (b.toNat : Int)
theorem byts_length (s : List UInt8) : (byts s).length = s.length := by simp [byts]
theorem byts_get (s : List UInt8) (k : Nat) (h : k < s.length) : (byts s)[k]? = some (.int .u8 (s[k].toNat : Int)) := by simp [byts, h]
theorem byts_snoc (s : List UInt8) (b : UInt8) : byts (s ++ [b]) = byts s ++ [.int .u8 (b.toNat : Int)] := by simp [byts]
theorem textL_snoc (xs : List Int) (k : Nat) (h : k < xs.length) : textL (xs.take (k + 1)) = textL (xs.take k) ++ [charM xs[k]] := by
  unfold textL
  rw [List.take_succ_eq_append_getElem h, List.map_append]
  rfl
theorem conv_text {w : World} {base g n cap : Nat} {s : List UInt8} (ho : w.ownsRow base 5 1 (.slice (some ⟨g, 0, none⟩) n cap) n (byts s)) :
    (convert 59 9 (.slice (some ⟨g, 0, none⟩) n cap)).run Try.prog w = .ok (.string (bs_ s)) w := by
  have hn : n = s.length := by have := ho.1; rw [byts_length, Nat.mul_one] at this; exact this.symm
  subst hn
  refine run_convert_bytes_back w 59 9 5 ⟨g, 0, none⟩ cap s Try.underlying59 Try.underlying5 Try.underlying9 ?_
  intro j hj
  have h1 := own_cell ho j (by rw [byts_length]; exact hj)
  rw [Addr.add_lit, Nat.zero_add, h1]
  simp [byts]
def keyT (xs : List Int) : List UInt8 := if legalL xs = true then textL xs else []
theorem keyT_yes {xs : List Int} (h : legalL xs = true) : keyT xs = textL xs := by unfold keyT; rw [if_pos h]
theorem keyT_no {xs : List Int} (h : legalL xs = false) : keyT xs = [] := by unfold keyT; rw [if_neg (by simp [h])]
theorem ret_sb {s t : List UInt8} {p q : Bool} (h : s = t) (k : p = q) : Ending.returned (.tuple #[.string (bs_ s), .bool p]) = .returned (.tuple #[.string (bs_ t), .bool q]) := by rw [h, k]

set_option maxRecDepth 20000 in
set_option maxHeartbeats 4000000 in
theorem l03Text_any (n : Nat) (A : Option Addr) (c : Nat) (xs : List Int) (w : World) (hn : xs.length = n) (ha : Rd w w.heap.size 1 A n (ints xs)) (hl : n ≤ 1048576) :
    Calls Try.prog 126 #[.slice A n c] w fun e w' => e = .returned (.tuple #[.string (bs_ (keyT xs)), .bool (legalL xs)]) ∧ Below w.heap.size w w' := by
  obtain ⟨j0, hj, hj0, hj1, hj2⟩ := info_parts info_u8K
  subst hn
  go_enter Try.func126, Try.ntmps126
  go_wp2
  go_loopw [4, 5] (fun o i wr => ∃ (k g cg : Nat), k ≤ xs.length ∧ i = .int .i64 k ∧ o = .slice (some ⟨g, 0, none⟩) k cg ∧ (xs.take k).any (fun m => !legalM m) = false ∧ wr.ownsRow w.heap.size 5 1 (.slice (some ⟨g, 0, none⟩) k cg) k (byts (textL (xs.take k))) ∧ Below w.heap.size w wr) (fun _ i _ => xs.length - (intOf i).toNat)
  case atStart => exact ⟨0, w.heap.size, 0, Nat.zero_le _, rfl, rfl, rfl, own_lit w #[] 0 rfl (Nat.le_refl _) (by omega) rfl, ba (b0 w) (.cells #[] 5)⟩
  case round =>
    obtain ⟨wo, rfl⟩ : ∃ wo : World, wo = wr := ⟨_, rfl⟩
    obtain ⟨k, g, cg, hk, rfl, rfl, hno, hown, hbw⟩ := hrel
    have HNO := Lib.hid hno
    clear hno
    by_cases hlt : k < xs.length
    · obtain ⟨b1, o1, rfl, hbb, hc⟩ := ha.at_ hlt
      have d1 := cell_later hbw (hc k _ (ints_get _ k hlt))
      obtain ⟨u, hu⟩ : ∃ u, u = xs[k] := ⟨_, rfl⟩
      rw [← hu] at d1
      have HS := Lib.hid (textL_snoc xs k hlt)
      have i1 : (k : Int) < (xs.length : Int) := by omega
      have HU := Lib.hid hu
      have hbase := hbw.size
      clear hu hc hbb
      rcases Bool.eq_false_or_eq_true (legalM u) with hm | hm
      · have HP := Lib.hid (any_take_succ (p := fun m => !legalM m) hlt HNO.out (by rw [← HU.out, hm]; rfl))
        go_wp2_with fail
        refine (l03Char_yes u _ hm).mono ?_; rintro e w1 ⟨rfl, rfl⟩
        go_wp2_with (at_builtin; refine wpList_ap rfl (.tmp 25) (.tmp 27) 59 rfl w.heap.size 5 j0 _ 1 1 Try.underlying59 hj hj0 hj1 hj2 rfl (by omega) _ k _ (byts (textL (xs.take k))) rfl wo hown 1 #[.int .u8 ((charM u).toNat : Int)] wo.heap.size rfl rfl rfl (by intro v hv; simp at hv; subst hv; rfl) (by omega) (by omega) (by omega) hbase ?_; intro gg cap w6 hown6 hb6 hg6 _ _)
        have HO := Lib.hid (show w6.ownsRow w.heap.size 5 1 (.slice (some ⟨gg, 0, none⟩) (k + 1) cap) (k + 1) (byts (textL (xs.take (k + 1)))) by rw [HS.out, ← HU.out, byts_snoc]; exact hown6)
        have HB := Lib.hid (hbw.trans hb6)
        clear hown6 hown hb6 hg6 hbw
        go_wp2
        go_roundw
        case rel => exact ⟨k + 1, gg, cap, by omega, by go_num, rfl, HP.out, HO.out, HB.out⟩
        case measure => simp [intOf]; omega
      · have HL := Lib.hid (show legalL xs = false from List.all_eq_false.2 ⟨xs[k], List.getElem_mem hlt, by rw [← HU.out, hm]; simp⟩)
        go_wp2_with fail
        refine (l03Char_no u _ hm).mono ?_; rintro e w1 ⟨rfl, rfl⟩
        go_wp2
        go_ret2
        exact ⟨ret_sb (keyT_no HL.out).symm HL.out.symm, hbw⟩
    · obtain rfl : k = xs.length := by omega
      have HL := Lib.hid (show legalL xs = true by
        have h1 := any_take_all hlt HNO.out
        rw [any_not_allI] at h1
        simpa [legalL] using h1)
      have hown2 : wo.ownsRow w.heap.size 5 1 (.slice (some ⟨g, 0, none⟩) xs.length cg) xs.length (byts (textL xs)) := by
        rw [List.take_of_length_le (Nat.le_refl _)] at hown
        exact hown
      have hconv := conv_text hown2
      clear hown hown2
      go_wp2
      go_ret2
      exact ⟨ret_sb (keyT_yes HL.out).symm HL.out.symm, hbw⟩

set_option maxHeartbeats 2000000 in
theorem l02Part_any (p q b o c : Nat) (xs : List Int) (i j : Nat) (w : World) (hp : w.cell? ⟨p, q, none⟩ = some (.slice (some ⟨b, o, none⟩) xs.length c)) (hij : i < j) (hj : j ≤ xs.length) (hc : xs.length ≤ c) :
    Calls Try.prog 127 #[.pointer (some ⟨p, q, none⟩), .agg #[.int .i64 (i : Int), .int .i64 (j : Int)]] w fun e w' => e = .returned (.slice (some ⟨b, o + i, none⟩) (j - i) (c - i)) ∧ Below w.heap.size w w' := by
  have T0 : Below w.heap.size w (w.alloc (.cells #[.int .i64 (i : Int), .int .i64 (j : Int)] 31)) := ba (b0 w) _
  obtain ⟨W, hW⟩ : ∃ W, W = w.alloc (.cells #[.int .i64 (i : Int), .int .i64 (j : Int)] 31) := ⟨_, rfl⟩
  have k1 : W.cell? ⟨p, q, none⟩ = some (.slice (some ⟨b, o, none⟩) xs.length c) := by rw [hW]; exact cell_alloc hp _
  have k3 : W.cell? ⟨w.heap.size, 0, none⟩ = some (.int .i64 (i : Int)) := by rw [hW]; exact cell_new rfl rfl
  have k4 : W.cell? ⟨w.heap.size, 1, none⟩ = some (.int .i64 (j : Int)) := by rw [hW]; exact cell_new rfl rfl
  rw [← hW] at T0
  have HW := Lib.hid hW
  have ci : ¬ c = i := by omega
  have i1 : (i : Int) ≤ (j : Int) := by omega
  have i2 : (j : Int) ≤ (c : Int) := by omega
  have l1 := fun x : Later W => lat_cell x k1
  have l3 := fun x : Later W => lat_cell x k3
  have l4 := fun x : Later W => lat_cell x k4
  clear hW k1 k3 k4 hp
  go_enter Try.func127, Try.ntmps127
  go_wp2_with fail
  rw [← HW.out]
  refine wp_region_later (by kernel_rfl) (by kernel_rfl) ?_
  repeat (go_big_quiet_step (fail))
  refine wpQuiet_nil ?_
  intro w4 hb4
  go_wp2
  go_ret
  exact ⟨rfl, bs T0 hb4⟩

set_option maxHeartbeats 1000000 in
theorem l03Key_any (p q : Nat) (A : Option Addr) (c : Nat) (xs : List Int) (i j : Nat) (w : World) (hp : w.cell? ⟨p, q, none⟩ = some (.slice A xs.length c)) (ha : Rd w w.heap.size 1 A xs.length (ints xs)) (hij : i < j) (hj : j ≤ xs.length) (hc : xs.length ≤ c) (hl : xs.length ≤ 1048576) :
    Calls Try.prog 91 #[.pointer (some ⟨p, q, none⟩), .agg #[.int .i64 (i : Int), .int .i64 (j : Int)]] w fun e w' => e = .returned (.tuple #[.string (bs_ (keyT (part xs (i : Int) (j : Int)))), .bool (legalL (part xs (i : Int) (j : Int)))]) ∧ Below w.heap.size w w' := by
  obtain ⟨b, o, rfl, _, _⟩ := ha.at_ (show 0 < xs.length by omega)
  have T0 : Below w.heap.size w (w.alloc (.cells #[.int .i64 (i : Int), .int .i64 (j : Int)] 31)) := ba (b0 w) _
  have k1 := cell_alloc hp (.cells #[.int .i64 (i : Int), .int .i64 (j : Int)] 31)
  have ra := ha.a1 (.cells #[.int .i64 (i : Int), .int .i64 (j : Int)] 31)
  have HPL := Lib.hid (part_len hij hj)
  clear hp ha
  go_enter Try.func91, Try.ntmps91
  go_wp2_with fail
  refine (l02Part_any p q b o c xs i j _ k1 hij hj hc).mono ?_; rintro e w1 ⟨rfl, hb1⟩
  go_wp2_with fail
  refine (l03Text_any (j - i) _ _ (part xs (i : Int) (j : Int)) _ HPL.out (rd_part (ra.up hb1) hij hj) (by omega)).mono ?_; rintro e w2 ⟨rfl, hb2⟩
  go_wp2
  go_ret2
  exact ⟨rfl, bs (bs T0 hb1) hb2⟩
end Go.Proofs.Yteeaeomkpecflaa
