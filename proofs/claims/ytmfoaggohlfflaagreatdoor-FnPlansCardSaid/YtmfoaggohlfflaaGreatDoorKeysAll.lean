/- Fields of cards: their characters, their texts, comparing; in the program and in the reference. The texts of a field of all cards, the steps, the groups; in the program and in the reference. Steps and groups; IsSorted, FirstStep; in the program and in the reference. -/
import Derived.Test.YtmfoaggohlfflaaGreatDoorRankAll
import Derived.Laws.IdiomStrings
import Derived.IntWalk
/-! ### Fields of cards: their characters, their texts, comparing; in the program and in the reference. -/
namespace Go.Proofs.YtmfoaggohlfflaaGreatDoor
open Go.RowKit

theorem info_u8K : (Tryz.prog.info? 5).map (fun i => (i.zero, i.size, i.bytes)) = some (some (.int .u8 0), 1, 1) := by kernel_rfl
theorem info_strK : (Tryz.prog.info? 9).map (fun i => (i.zero, i.size, i.bytes)) = some (some (.string ⟨#[]⟩), 1, 16) := by kernel_rfl

set_option maxHeartbeats 1000000 in
theorem hasField_any (A : Option Addr) (c : Nat) (xs : List Int) (i j : Nat) (w : World) (ha : Rd w w.heap.size 1 A xs.length (ints xs)) (hij : i < j) (hj : j ≤ xs.length) (hl : xs.length ≤ 1048576) (hc : xs.length ≤ c) :
    Calls Tryz.prog 106 #[.agg #[.slice A xs.length c], .agg #[.int .i64 (i : Int), .int .i64 (j : Int)]] w fun e w' => e = .returned (.bool (legalL (part xs (i : Int) (j : Int)))) ∧ Below w.heap.size w w' := by
  obtain ⟨b, o, rfl, _, _⟩ := ha.at_ (show 0 < xs.length by omega)
  have hp := rd_part ((ha.a1 (.cells #[.slice (some ⟨b, o, none⟩) xs.length c] 41)).a1 (.cells #[.int .i64 (i : Int), .int .i64 (j : Int)] 27)) hij hj
  have HPL := Lib.hid (part_len hij hj)
  have ci : ¬ c = i := by omega
  have i1 : (i : Int) ≤ (j : Int) := by omega
  have i2 : (j : Int) ≤ (c : Int) := by omega
  go_enter Tryz.func106, Tryz.ntmps106
  go_wp2_with fail
  refine (hasCharacters_any (j - i) _ _ (part xs (i : Int) (j : Int)) _ HPL.out hp (by omega)).mono ?_; rintro e w1 ⟨rfl, hb1⟩
  go_wp2
  go_ret
  exact ⟨rfl, bs (ba (ba (b0 _) _) _) hb1⟩

theorem haveField1_any (bf : Nat) (A : Option Addr) (c : Nat) (xs : List Int) (i j : Nat) (w : World) (h1 : w.cell? ⟨bf, 0, none⟩ = some (.int .i64 (i : Int))) (h2 : w.cell? ⟨bf, 1, none⟩ = some (.int .i64 (j : Int)))
    (ha : Rd w w.heap.size 1 A xs.length (ints xs)) (hij : i < j) (hj : j ≤ xs.length) (hl : xs.length ≤ 1048576) (hc : xs.length ≤ c) :
    Calls Tryz.prog 105 #[.agg #[.slice A xs.length c], .pointer (some ⟨bf, 0, none⟩)] w fun e w' => e = .returned (.bool (!legalL (part xs (i : Int) (j : Int)))) ∧ Below w.heap.size w w' := by
  have k1 := cell_alloc h1 (.cells #[.slice A xs.length c] 41)
  have k2 := cell_alloc h2 (.cells #[.slice A xs.length c] 41)
  have ha1 := ha.a1 (.cells #[.slice A xs.length c] 41)
  clear h1 h2 ha
  go_enter Tryz.func105, Tryz.ntmps105
  go_wp2_with fail
  refine (hasField_any _ _ xs i j _ ha1 hij hj hl hc).mono ?_; rintro e w1 ⟨rfl, hb1⟩
  go_wp2
  go_ret
  exact ⟨rfl, bs (ba (b0 _) _) hb1⟩
theorem haveF_any (L : List (List Int)) (a b : Int) : (!(L.any fun x => !legalL (part x a b))) = haveF L a b := by
  rw [any_not_allI]
  simp [haveF]
theorem haveField_any (D : Option Addr) (c : Nat) (hs : List Hd) (i j : Nat) (w : World) (ha : RdD w w.heap.size D hs) (hok : deckOk (cards hs) = true) (hij : i < j) (hj : j ≤ deckW (cards hs)) (hl : hs.length + tot hs ≤ 1048576) :
    Calls Tryz.prog 49 #[.slice D hs.length c, .agg #[.int .i64 (i : Int), .int .i64 (j : Int)]] w fun e w' => e = .returned (.bool (haveF (cards hs) (i : Int) (j : Int))) ∧ Below w.heap.size w w' := by
  have ha2 := ha.a1 (.cells #[.int .i64 (i : Int), .int .i64 (j : Int)] 27)
  have c1 : World.cell? (w.alloc (.cells #[.int .i64 (i : Int), .int .i64 (j : Int)] 27)) ⟨w.heap.size, 0, none⟩ = some (.int .i64 (i : Int)) := cell_new rfl rfl
  have c2 : World.cell? (w.alloc (.cells #[.int .i64 (i : Int), .int .i64 (j : Int)] 27)) ⟨w.heap.size, 1, none⟩ = some (.int .i64 (j : Int)) := cell_new rfl rfl
  have hcon := Lib.hid (ContainsFuncCard_any D c hs 105 #[.pointer (some ⟨w.heap.size, 0, none⟩)] (fun x => !legalL (part x (i : Int) (j : Int))) _ ha2 (by omega) Tryz.call105
    (fun h hh w' hbk => by
      obtain ⟨k, hk, rfl⟩ := List.mem_iff_getElem.1 hh
      have hra := ha2.up hbk
      have hlk := tot_at hs k hk
      exact haveField1_any _ _ _ _ i j w' (cell_later hbk c1) (cell_later hbk c2) (hra.card_at hk) hij (by rw [← deckW_at hok hk]; exact hj) (by omega) (hra.cap_at hk)))
  clear ha2 c1 c2
  have HA := Lib.hid (haveF_any (cards hs) (i : Int) (j : Int))
  obtain ⟨q, hq⟩ : ∃ q, q = (cards hs).any (fun x => !legalL (part x (i : Int) (j : Int))) := ⟨_, rfl⟩
  rw [← hq] at hcon HA
  clear hq
  go_enter Tryz.func49, Tryz.ntmps49
  go_wp2_with fail
  refine hcon.out.mono ?_; rintro e w1 ⟨rfl, hb1⟩
  go_wp2
  go_ret
  exact ⟨ret_bool HA.out, bs (ba (b0 _) _) hb1⟩

theorem compareHoles_q (n : Nat) (A B : Option Addr) (c d : Nat) (xs ys : List Int) (z : Int) (w : World) (hz : z = cmpR xs ys) (hn : xs.length = n) (hm : ys.length = n) (ha : Rd w w.heap.size 1 A n (ints xs)) (hb : Rd w w.heap.size 1 B n (ints ys)) (hl : n ≤ 1048576) :
    Calls Tryz.prog 188 #[.slice A n c, .slice B n d] w fun e w' => e = .returned (.int .i64 z) ∧ Below w.heap.size w w' := by
  subst hz
  exact compareHoles_any n n A B c d xs ys w hn hm rfl ha hb hl
set_option maxHeartbeats 2000000 in
theorem compareFields_any (A B : Option Addr) (c d : Nat) (xs ys : List Int) (i j : Nat) (w : World) (ha : Rd w w.heap.size 1 A xs.length (ints xs)) (hb : Rd w w.heap.size 1 B ys.length (ints ys)) (hij : i < j) (hj : j ≤ xs.length) (hj' : j ≤ ys.length) (hl : xs.length ≤ 1048576) (hl' : ys.length ≤ 1048576)
    (hc : xs.length ≤ c) (hd : ys.length ≤ d) :
    Calls Tryz.prog 170 #[.agg #[.slice A xs.length c], .agg #[.slice B ys.length d], .agg #[.int .i64 (i : Int), .int .i64 (j : Int)]] w fun e w' => e = .returned (.int .i64 (cmpR (part xs (i : Int) (j : Int)) (part ys (i : Int) (j : Int)))) ∧ Below w.heap.size w w' := by
  obtain ⟨b1, o1, rfl, _, _⟩ := ha.at_ (show 0 < xs.length by omega)
  obtain ⟨b2, o2, rfl, _, _⟩ := hb.at_ (show 0 < ys.length by omega)
  have T0 : Below w.heap.size w (((w.alloc (.cells #[.slice (some ⟨b1, o1, none⟩) xs.length c] 41)).alloc (.cells #[.slice (some ⟨b2, o2, none⟩) ys.length d] 41)).alloc (.cells #[.int .i64 (i : Int), .int .i64 (j : Int)] 27)) := ba (ba (ba (b0 w) _) _) _
  have ra := ((ha.a1 (.cells #[.slice (some ⟨b1, o1, none⟩) xs.length c] 41)).a1 (.cells #[.slice (some ⟨b2, o2, none⟩) ys.length d] 41)).a1 (.cells #[.int .i64 (i : Int), .int .i64 (j : Int)] 27)
  have rb := ((hb.a1 (.cells #[.slice (some ⟨b1, o1, none⟩) xs.length c] 41)).a1 (.cells #[.slice (some ⟨b2, o2, none⟩) ys.length d] 41)).a1 (.cells #[.int .i64 (i : Int), .int .i64 (j : Int)] 27)
  obtain ⟨W, hW⟩ : ∃ W, W = (((w.alloc (.cells #[.slice (some ⟨b1, o1, none⟩) xs.length c] 41)).alloc (.cells #[.slice (some ⟨b2, o2, none⟩) ys.length d] 41)).alloc (.cells #[.int .i64 (i : Int), .int .i64 (j : Int)] 27)) := ⟨_, rfl⟩
  have k1 : W.cell? ⟨w.heap.size, 0, none⟩ = some (.slice (some ⟨b1, o1, none⟩) xs.length c) := by rw [hW]; exact cell_alloc (cell_alloc (cell_new rfl rfl) _) _
  have k2 : W.cell? ⟨w.heap.size + 1, 0, none⟩ = some (.slice (some ⟨b2, o2, none⟩) ys.length d) := by rw [hW]; exact cell_alloc (cell_new (by simp) rfl) _
  have k3 : W.cell? ⟨w.heap.size + 1 + 1, 0, none⟩ = some (.int .i64 (i : Int)) := by rw [hW]; exact cell_new (by simp) rfl
  have k4 : W.cell? ⟨w.heap.size + 1 + 1, 1, none⟩ = some (.int .i64 (j : Int)) := by rw [hW]; exact cell_new (by simp) rfl
  rw [← hW] at ra rb T0
  have pa := rd_part ra hij hj
  have pb := rd_part rb hij hj'
  have HPA := Lib.hid (part_len hij hj)
  have HPB := Lib.hid (part_len hij hj')
  have HW := Lib.hid hW
  have ci : ¬ c = i := by omega
  have di : ¬ d = i := by omega
  have i1 : (i : Int) ≤ (j : Int) := by omega
  have i2 : (j : Int) ≤ (c : Int) := by omega
  have i3 : (j : Int) ≤ (d : Int) := by omega
  obtain ⟨z, hz⟩ : ∃ z, z = cmpR (part xs (i : Int) (j : Int)) (part ys (i : Int) (j : Int)) := ⟨_, rfl⟩
  have HZ := Lib.hid hz
  have l1 := fun x : Later W => lat_cell x k1
  have l2 := fun x : Later W => lat_cell x k2
  have l3 := fun x : Later W => lat_cell x k3
  have l4 := fun x : Later W => lat_cell x k4
  clear hz hW k1 k2 k3 k4 ra rb ha hb
  go_enter Tryz.func170, Tryz.ntmps170
  go_wp2_with fail
  rw [← HW.out]
  refine wp_region_later (by kernel_rfl) (by kernel_rfl) ?_
  repeat (go_big_quiet_step ((go_at_call 188; exact lat_call (compareHoles_q (j - i) _ _ _ _ (part xs (i : Int) (j : Int)) (part ys (i : Int) (j : Int)) z _ HZ.out HPA.out HPB.out (lat_rd _ pa) (lat_rd _ pb) (by omega)))))
  refine wpQuiet_nil ?_
  intro w4 hb4
  go_wp2
  go_ret
  exact ⟨ret_int HZ.out, bs T0 hb4⟩

theorem codeK_z {L : List (List Int)} {a b : Int} {q : Bool} (h : deckOk L = true) (h2 : fieldOk a b (deckW L : Int) = true) (h3 : haveF L a b = q) : codeK L a b = if q = true then 0 else 8 := by unfold codeK; rw [if_pos h, if_pos h2, h3]
set_option maxHeartbeats 2000000 in
theorem sortCode_any (D : Option Addr) (c : Nat) (hs : List Hd) (a b : Int) (w : World) (ha : RdD w w.heap.size D hs) (hl : hs.length + tot hs ≤ 1048576) :
    Calls Tryz.prog 43 #[.slice D hs.length c, .agg #[.int .i64 a, .int .i64 b]] w fun e w' => e = .returned (.int .i64 (codeK (cards hs) a b)) ∧ Below w.heap.size w w' := by
  have T0 : Below w.heap.size w (w.alloc (.cells #[.int .i64 a, .int .i64 b] 27)) := ba (b0 w) _
  have ra := ha.a1 (.cells #[.int .i64 a, .int .i64 b] 27)
  rcases Bool.eq_false_or_eq_true (deckOk (cards hs)) with h1 | h1
  · have H1 := Lib.hid h1
    rcases Bool.eq_false_or_eq_true (fieldOk a b (deckW (cards hs) : Int)) with h2 | h2
    · obtain ⟨i, j, rfl, rfl, hij, hjw⟩ := fieldOk_nat h2
      rcases Bool.eq_false_or_eq_true (haveF (cards hs) (i : Int) (j : Int)) with h3 | h3
      all_goals
        have HC := Lib.hid (codeK_z h1 h2 h3)
        go_enter Tryz.func43, Tryz.ntmps43
        go_wp2_with fail
        refine (ValidDeck_any _ _ hs _ ra hl).mono ?_; rintro e w1 ⟨rfl, hb1⟩
        have k2 : w1.cell? ⟨w.heap.size, 0, none⟩ = some (.int .i64 (i : Int)) := cell_later hb1 (cell_new rfl rfl)
        have k3 : w1.cell? ⟨w.heap.size, 1, none⟩ = some (.int .i64 (j : Int)) := cell_later hb1 (cell_new rfl rfl)
        have l2 := fun x : Later w1 => lat_cell x k2
        have l3 := fun x : Later w1 => lat_cell x k3
        have hra := ra.up hb1
        have T1 := bs T0 hb1
        clear hb1
        go_wp2_with fail
        refine wp_region_later (by kernel_rfl) (by kernel_rfl) ?_
        repeat (go_big_quiet_step ((first | (go_at_call 48; exact lat_call (deckColumns_any _ _ hs _ (hra.up (Later.below _)) hl)) | (go_at_call 39; exact lat_call (isField_any _ _ _ _)))))
        refine wpQuiet_nil ?_
        intro w2 hb2
        have k4 := cell_later hb2 k2
        have k5 := cell_later hb2 k3
        clear k2 k3 l2 l3
        go_wp2_with fail
        refine (haveField_any _ _ hs i j _ (hra.up hb2) H1.out hij hjw hl).mono ?_; rintro e w3 ⟨rfl, hb3⟩
        go_wp2
        go_ret
        exact ⟨ret_int (by rw [HC.out]; simp), bs (bs T1 hb2) hb3⟩
    · have HC := Lib.hid (codeK_2 h1 h2)
      go_enter Tryz.func43, Tryz.ntmps43
      go_wp2_with fail
      refine (ValidDeck_any _ _ hs _ ra hl).mono ?_; rintro e w1 ⟨rfl, hb1⟩
      have k2 : w1.cell? ⟨w.heap.size, 0, none⟩ = some (.int .i64 a) := cell_later hb1 (cell_new rfl rfl)
      have k3 : w1.cell? ⟨w.heap.size, 1, none⟩ = some (.int .i64 b) := cell_later hb1 (cell_new rfl rfl)
      have l2 := fun x : Later w1 => lat_cell x k2
      have l3 := fun x : Later w1 => lat_cell x k3
      have hra := ra.up hb1
      have T1 := bs T0 hb1
      clear hb1
      go_wp2_with fail
      refine wp_region_later (by kernel_rfl) (by kernel_rfl) ?_
      repeat (go_big_quiet_step ((first | (go_at_call 48; exact lat_call (deckColumns_any _ _ hs _ (hra.up (Later.below _)) hl)) | (go_at_call 39; exact lat_call (isField_any _ _ _ _)))))
      refine wpQuiet_nil ?_
      intro w2 hb2
      go_wp2
      go_ret
      exact ⟨ret_int HC.out.symm, bs T1 hb2⟩
  · have HC := Lib.hid (codeK_1 (a := a) (b := b) h1)
    go_enter Tryz.func43, Tryz.ntmps43
    go_wp2_with fail
    refine (ValidDeck_any _ _ hs _ ra hl).mono ?_; rintro e w1 ⟨rfl, hb1⟩
    go_wp2
    go_ret
    exact ⟨ret_int HC.out.symm, bs T0 hb1⟩

/-! ### the reference's texts -/
def byts (s : List UInt8) : List Value := s.map fun b => .int .u8 (b.toNat : Int)
theorem byts_length (s : List UInt8) : (byts s).length = s.length := by simp [byts]
theorem byts_get (s : List UInt8) (k : Nat) (h : k < s.length) : (byts s)[k]? = some (.int .u8 (s[k].toNat : Int)) := by simp [byts, h]
theorem byts_snoc (s : List UInt8) (b : UInt8) : byts (s ++ [b]) = byts s ++ [.int .u8 (b.toNat : Int)] := by simp [byts]
theorem textL_snoc (xs : List Int) (k : Nat) (h : k < xs.length) : textL (xs.take (k + 1)) = textL (xs.take k) ++ [charM xs[k]] := by
  unfold textL
  rw [List.take_succ_eq_append_getElem h, List.map_append]
  rfl
theorem conv_text {w : World} {base g n cap : Nat} {s : List UInt8} (ho : w.ownsRow base 5 1 (.slice (some ⟨g, 0, none⟩) n cap) n (byts s)) :
    (convert 22 9 (.slice (some ⟨g, 0, none⟩) n cap)).run Tryz.prog w = .ok (.string (bs_ s)) w := by
  have hn : n = s.length := by have := ho.1; rw [byts_length, Nat.mul_one] at this; exact this.symm
  subst hn
  refine run_convert_bytes_back w 22 9 5 ⟨g, 0, none⟩ cap s Tryz.underlying22 Tryz.underlying5 Tryz.underlying9 ?_
  intro j hj
  have h1 := own_cell ho j (by rw [byts_length]; exact hj)
  rw [Addr.add_lit, Nat.zero_add, h1]
  simp [byts]
def keyT (xs : List Int) : List UInt8 := if legalL xs = true then textL xs else []
theorem keyT_yes {xs : List Int} (h : legalL xs = true) : keyT xs = textL xs := by unfold keyT; rw [if_pos h]
theorem keyT_no {xs : List Int} (h : legalL xs = false) : keyT xs = [] := by unfold keyT; rw [if_neg (by simp [h])]
theorem ret_sb {s t : List UInt8} {p q : Bool} (h : s = t) (k : p = q) : Ending.returned (.tuple #[.string (bs_ s), .bool p]) = .returned (.tuple #[.string (bs_ t), .bool q]) := by rw [h, k]

end Go.Proofs.YtmfoaggohlfflaaGreatDoor

/-! ### The texts of a field of all cards, the steps, the groups; in the program and in the reference. -/
namespace Go.Proofs.YtmfoaggohlfflaaGreatDoor
open Go.RowKit

theorem part_deck {L : List (List Int)} (hok : deckOk L = true) {i j : Nat} (hij : i < j) (hj : j ≤ deckW L) {k : Nat} (hk : k < L.length) : (part L[k] (i : Int) (j : Int)).length = j - i ∧ j ≤ L[k].length := by
  have h1 := (deckOk_card hok hk).2
  have h2 : deckW L = wid0 L := by unfold deckW; rw [if_neg (by omega)]
  exact ⟨part_len hij (by omega), by omega⟩
theorem ret_kk {K : Option Addr} {n m ck : Nat} {a b : Int} (h : a = b) (k : n = m) : Ending.returned (.tuple #[.slice K n ck, .int .i64 a]) = .returned (.tuple #[.slice K m ck, .int .i64 b]) := by rw [h, k]

/-- Behind k cards. -/
def KyR (L : List (List Int)) (i j : Nat) (w wr : World) (o q : Value) : Prop := ∃ (k : Nat) (G : Option Addr) (cg : Nat), k ≤ L.length ∧ q = .int .i64 k ∧ o = .slice G k cg ∧ (L.take k).any (fun x => !legalL (part x (i : Int) (j : Int))) = false ∧
  wr.ownsRow w.heap.size 9 1 (.slice G k cg) k (strs (keysL (L.take k) (i : Int) (j : Int))) ∧ Below w.heap.size w wr

end Go.Proofs.YtmfoaggohlfflaaGreatDoor

/-! ### Steps and groups; IsSorted, FirstStep; in the program and in the reference. -/
namespace Go.Proofs.YtmfoaggohlfflaaGreatDoor
open Go.RowKit

theorem ret_bk {p q : Bool} {a b : Int} (h : p = q) (k : a = b) : Ending.returned (.tuple #[.bool p, .int .i64 a]) = .returned (.tuple #[.bool q, .int .i64 b]) := by rw [h, k]
theorem ret_ik {a b c d : Int} (h : a = b) (k : c = d) : Ending.returned (.tuple #[.int .i64 a, .int .i64 c]) = .returned (.tuple #[.int .i64 b, .int .i64 d]) := by rw [h, k]
theorem beq_zero_dec (n : Nat) : ((n : Int) == 0) = decide (n = 0) := by
  rw [Bool.eq_iff_iff]
  simp
theorem info_i64K : (Tryz.prog.info? 2).map (fun i => (i.zero, i.size, i.bytes)) = some (some (.int .i64 0), 1, 8) := by kernel_rfl
theorem compareFields_z (A B : Option Addr) (c d : Nat) (xs ys : List Int) (i j : Nat) (z : Int) (w : World) (hz : z = cmpR (part xs (i : Int) (j : Int)) (part ys (i : Int) (j : Int))) (ha : Rd w w.heap.size 1 A xs.length (ints xs)) (hb : Rd w w.heap.size 1 B ys.length (ints ys)) (hij : i < j) (hj : j ≤ xs.length) (hj' : j ≤ ys.length) (hl : xs.length ≤ 1048576) (hl' : ys.length ≤ 1048576)
    (hc : xs.length ≤ c) (hd : ys.length ≤ d) :
    Calls Tryz.prog 170 #[.agg #[.slice A xs.length c], .agg #[.slice B ys.length d], .agg #[.int .i64 (i : Int), .int .i64 (j : Int)]] w fun e w' => e = .returned (.int .i64 z) ∧ Below w.heap.size w w' := by
  subst hz
  exact compareFields_any A B c d xs ys i j w ha hb hij hj hj' hl hl' hc hd
/-- Behind the cards before k. -/
def StR (L : List (List Int)) (i j : Nat) (w wr : World) (o q : Value) : Prop := ∃ (k : Nat) (g cg : Nat), 1 ≤ k ∧ k ≤ 41 ∧ q = .int .i64 k ∧ o = .slice (some ⟨g, 0, none⟩) (stepsL L (i : Int) (j : Int) (min k L.length)).length cg ∧
  wr.ownsRow w.heap.size 2 1 (.slice (some ⟨g, 0, none⟩) (stepsL L (i : Int) (j : Int) (min k L.length)).length cg) (stepsL L (i : Int) (j : Int) (min k L.length)).length (ints (stepsL L (i : Int) (j : Int) (min k L.length))) ∧ Below w.heap.size w wr

def srtRes (L : List (List Int)) (a b : Int) : Bool := if codeK L a b = 0 then decide ((stepsL L a b L.length).length = 0) else false
theorem srtRes_0 {L : List (List Int)} {a b : Int} (h : codeK L a b = 0) : srtRes L a b = decide ((stepsL L a b L.length).length = 0) := by unfold srtRes; rw [if_pos h]
theorem srtRes_1 {L : List (List Int)} {a b : Int} (h : codeK L a b ≠ 0) : srtRes L a b = false := by unfold srtRes; rw [if_neg h]
def fstRes (L : List (List Int)) (a b : Int) : Int := if codeK L a b = 0 then stepF L a b L.length else 0
theorem fstRes_0 {L : List (List Int)} {a b : Int} (h : codeK L a b = 0) : fstRes L a b = stepF L a b L.length := by unfold fstRes; rw [if_pos h]
theorem fstRes_1 {L : List (List Int)} {a b : Int} (h : codeK L a b ≠ 0) : fstRes L a b = 0 := by unfold fstRes; rw [if_neg h]

theorem head_cell {l : List Int} (h : 0 < l.length) : (ints l)[0]? = some (.int .i64 (l.headD (-1))) := by
  cases l with
  | nil => simp at h
  | cons a l => simp [ints]
end Go.Proofs.YtmfoaggohlfflaaGreatDoor
