/- The code of decks, a field and texts, in the program. -/
import Derived.Test.YtdppmlchabogaaaKeysAll
import Derived.Test.YtdppmlchabogaaaDecks2
import Derived.Lib.Strings
import Derived.Lib.Slices
import Derived.Lib.Walk
import Derived.Lib.Bytealg
namespace Go.Proofs.Ytdppmlchabogaaa
open Go.RowKit

set_option maxHeartbeats 1000000 in
set_option maxRecDepth 100000 in
theorem sliteIndexByte_any (s : ByteArray) (c : Int) (w : World) :
    Calls Try.prog 269 #[.string s, .int .u8 c] w fun e w' => e = .returned (.int .i64 (Lib.indexByte s.data.toList c.toNat.toUInt8)) ∧ w = w' := by
  go_enter Try.func269, Try.ntmps269
  go_wp2
  rw [run_callFunc_extern Try.func273 (by kernel_rfl) (by kernel_rfl) (by kernel_rfl) (e := Extern.BytealgIndexByte.indexByte) (by kernel_rfl), Lib.run_indexByteString]
  simp only [Result.andThen]
  rw [Oper.upon_value]
  go_wp2
  go_ret
  exact ⟨rfl, rfl⟩
theorem stringsIndexByte_any (s : ByteArray) (c : Int) (w : World) :
    Calls Try.prog 262 #[.string s, .int .u8 c] w fun e w' => e = .returned (.int .i64 (Lib.indexByte s.data.toList c.toNat.toUInt8)) ∧ w = w' := by
  go_enter Try.func262, Try.ntmps262
  go_wp2_with fail
  refine (sliteIndexByte_any s c _).mono ?_; rintro e w1 ⟨rfl, rfl⟩
  go_wp2
  go_ret
  exact ⟨rfl, rfl⟩
/-- Is a byte a character? -/
def chB (c : UInt8) : Bool := decide (0 ≤ codeV c.toNat)
theorem chB_index (c : UInt8) : decide (0 ≤ Lib.indexByte charL c) = chB c := by
  have h : ∀ n : Fin 256, decide (0 ≤ Lib.indexByte charL (UInt8.ofNat n.val)) = chB (UInt8.ofNat n.val) := by decide +kernel
  have := h ⟨c.toNat, UInt8.toNat_lt c⟩
  simpa using this
theorem isCharacter_any (c : UInt8) (w : World) :
    Calls Try.prog 250 #[.int .u8 (c.toNat : Int)] w fun e w' => e = .returned (.bool (chB c)) ∧ w = w' := by
  have HC := Lib.hid (chB_index c)
  have HI := Lib.hid (show Lib.indexByte charB.data.toList ((c.toNat : Int).toNat.toUInt8) = Lib.indexByte charL c by
    rw [Int.toNat_natCast, show c.toNat.toUInt8 = c by simp [Nat.toUInt8]]; rfl)
  have hcon := Lib.hid (stringsIndexByte_any charB (c.toNat : Int) w)
  obtain ⟨z, hz⟩ : ∃ z, z = Lib.indexByte charB.data.toList ((c.toNat : Int).toNat.toUInt8) := ⟨_, rfl⟩
  rw [← hz] at hcon
  have HZ := Lib.hid hz
  clear hz
  go_enter Try.func250, Try.ntmps250
  go_wp2_with fail
  refine hcon.out.mono ?_; rintro e w1 ⟨rfl, rfl⟩
  go_wp2
  go_ret
  exact ⟨ret_bool (by rw [← HC.out, ← HI.out, ← HZ.out]), rfl⟩
theorem areCharacters_any (s : ByteArray) (w : World) (hl : s.size ≤ 1048576) :
    Calls Try.prog 222 #[.string s] w fun e w' => e = .returned (.bool ((byt s).all chB)) ∧ w = w' := by
  have HA := Lib.hid (any_not_allI chB (byt s))
  have HS := Lib.hid (byt_size s)
  go_enter Try.func222, Try.ntmps222
  go_wp2
  go_loop [3] (fun i => ∃ k : Nat, k ≤ s.size ∧ i = .int .i64 k ∧ ((byt s).take k).any (fun c => !chB c) = false) (fun i => s.size - (intOf i).toNat)
  case atStart => exact ⟨0, by omega, rfl, rfl⟩
  case round =>
    obtain ⟨k, hk, rfl, hno⟩ := hrel
    have HNO := Lib.hid hno
    clear hno
    by_cases hlt : k < s.size
    · have HKL := Lib.hid (show k < (byt s).length by rw [HS.out]; exact hlt)
      have HAT := Lib.hid (byt_at s k hlt)
      rcases Bool.eq_false_or_eq_true (chB s[k]) with hp | hp
      · have HB2 := Lib.hid (show chB ((byt s)[k]'HKL.out) = true by rw [HAT.out]; exact hp)
        have HP := Lib.hid (any_take_succ (p := fun c => !chB c) HKL.out HNO.out (by rw [HB2.out]; rfl))
        go_wp2_with fail
        refine (isCharacter_any s[k] _).mono ?_; rintro e w1 ⟨rfl, rfl⟩
        go_wp2
        go_round
        case rel => exact ⟨k + 1, by omega, by go_num, HP.out⟩
        case measure => simp [intOf]; omega
      · have HB2 := Lib.hid (show chB ((byt s)[k]'HKL.out) = false by rw [HAT.out]; exact hp)
        have HP := Lib.hid (show (byt s).all chB = false from List.all_eq_false.2 ⟨(byt s)[k]'HKL.out, List.getElem_mem HKL.out, by rw [HB2.out]; simp⟩)
        go_wp2_with fail
        refine (isCharacter_any s[k] _).mono ?_; rintro e w1 ⟨rfl, rfl⟩
        go_wp2
        go_ret
        exact ⟨ret_bool HP.out.symm, rfl⟩
    · have HP := Lib.hid (show (byt s).all chB = true by
        have h1 := any_take_all (l := byt s) (by rw [HS.out]; exact hlt) HNO.out
        rw [HA.out] at h1
        simpa using h1)
      go_wp2
      go_ret
      exact ⟨ret_bool HP.out.symm, rfl⟩

def strv (ts : List ByteArray) : List Value := ts.map Value.string
theorem strv_length (ts : List ByteArray) : (strv ts).length = ts.length := by simp [strv]
theorem strv_get (ts : List ByteArray) (k : Nat) (h : k < ts.length) : (strv ts)[k]? = some (.string ts[k]) := by simp [strv, h]
def lenB (a b : Int) (t : ByteArray) : Bool := (t.size : Int) == b - a
def chaB (t : ByteArray) : Bool := (byt t).all chB
/-- The code of decks, a field and texts. -/
def colC (Ls : List (List (List Int))) (v : Bool) (ts : List ByteArray) (a b : Int) : Int :=
  if Ls.all deckOk = true then (if v = true then (if Ls.all (fun L => fieldOk a b (deckW L : Int)) = true then (if ts.all (lenB a b) = true then (if ts.all chaB = true then (if Ls.all (fun L => haveF L a b) = true then 0 else 8) else 7) else 2) else 2) else 1) else 1
theorem colC_1 {Ls : List (List (List Int))} {v : Bool} {ts : List ByteArray} {a b : Int} (h : Ls.all deckOk = false) : colC Ls v ts a b = 1 := by unfold colC; rw [if_neg (by simp [h])]
theorem colC_v {Ls : List (List (List Int))} {ts : List ByteArray} {a b : Int} : colC Ls false ts a b = 1 := by unfold colC; split <;> rfl
theorem colC_2 {Ls : List (List (List Int))} {ts : List ByteArray} {a b : Int} (h : Ls.all deckOk = true) (h2 : Ls.all (fun L => fieldOk a b (deckW L : Int)) = false) : colC Ls true ts a b = 2 := by unfold colC; rw [if_pos h, if_pos rfl, if_neg (by simp [h2])]
theorem colC_3 {Ls : List (List (List Int))} {ts : List ByteArray} {a b : Int} (h : Ls.all deckOk = true) (h2 : Ls.all (fun L => fieldOk a b (deckW L : Int)) = true) (h3 : ts.all (lenB a b) = false) : colC Ls true ts a b = 2 := by unfold colC; rw [if_pos h, if_pos rfl, if_pos h2, if_neg (by simp [h3])]
theorem colC_7 {Ls : List (List (List Int))} {ts : List ByteArray} {a b : Int} (h : Ls.all deckOk = true) (h2 : Ls.all (fun L => fieldOk a b (deckW L : Int)) = true) (h3 : ts.all (lenB a b) = true) (h4 : ts.all chaB = false) : colC Ls true ts a b = 7 := by
  unfold colC; rw [if_pos h, if_pos rfl, if_pos h2, if_pos h3, if_neg (by simp [h4])]
theorem colC_8 {Ls : List (List (List Int))} {ts : List ByteArray} {a b : Int} (h : Ls.all deckOk = true) (h2 : Ls.all (fun L => fieldOk a b (deckW L : Int)) = true) (h3 : ts.all (lenB a b) = true) (h4 : ts.all chaB = true) (h5 : Ls.all (fun L => haveF L a b) = false) : colC Ls true ts a b = 8 := by
  unfold colC; rw [if_pos h, if_pos rfl, if_pos h2, if_pos h3, if_pos h4, if_neg (by simp [h5])]
theorem colC_0 {Ls : List (List (List Int))} {ts : List ByteArray} {a b : Int} (h : Ls.all deckOk = true) (h2 : Ls.all (fun L => fieldOk a b (deckW L : Int)) = true) (h3 : ts.all (lenB a b) = true) (h4 : ts.all chaB = true) (h5 : Ls.all (fun L => haveF L a b) = true) : colC Ls true ts a b = 0 := by
  unfold colC; rw [if_pos h, if_pos rfl, if_pos h2, if_pos h3, if_pos h4, if_pos h5]
/-- One deck, no texts. -/
theorem colC_one (L : List (List Int)) (a b : Int) : colC [L] true [] a b = codeK L a b := by simp [colC, codeK]
theorem all_of_none {α : Type} {p : α → Bool} {l : List α} {k : Nat} (hk : ¬ k < l.length) (h : (l.take k).any (fun x => !p x) = false) : l.all p = true := by
  have h1 := any_take_all hk h
  rw [any_not_allI] at h1
  simpa using h1
theorem all_bad {α : Type} {p : α → Bool} {l : List α} {k : Nat} (hk : k < l.length) (h : p l[k] = false) : l.all p = false := List.all_eq_false.2 ⟨l[k], List.getElem_mem hk, by simp [h]⟩

set_option maxRecDepth 100000 in
set_option maxHeartbeats 8000000 in
theorem collateCode_bad (a b : Int) (TA : Option Addr) (ct : Nat) (ts : List ByteArray) (E : Option Addr) (ce : Nat) (ds : List Dk) (w : World) (ha : RdDD w w.heap.size E ds) (hd1 : 0 < ds.length) (hdn : ds.length ≤ 1048576) (hl : ∀ k (h : k < ds.length), ds[k].hs.length + tot ds[k].hs ≤ 1048577)
    (hta : Rd w w.heap.size 1 TA ts.length (strv ts)) (_htl : ts.length ≤ 1048576) (hts : ∀ k (h : k < ts.length), ts[k].size ≤ 1048576) :
    Calls Try.prog 127 #[.agg #[.int .i64 a, .int .i64 b], .bool false, .slice TA ts.length ct, .slice E ds.length ce] w fun e w' => e = .returned (.int .i64 (colC (decks ds) false ts a b)) ∧ Below w.heap.size w w' := by
  have HDL := Lib.hid (decks_length ds)
  have HL := Lib.hid hl
  have HTS := Lib.hid hts
  have T0 : Below w.heap.size w (w.alloc (.cells #[.int .i64 a, .int .i64 b] 27)) := ba (b0 w) _
  have ra := ha.a1 (.cells #[.int .i64 a, .int .i64 b] 27)
  have rt := hta.a1 (.cells #[.int .i64 a, .int .i64 b] 27)
  obtain ⟨W, hW⟩ : ∃ W, W = w.alloc (.cells #[.int .i64 a, .int .i64 b] 27) := ⟨_, rfl⟩
  have k2 : W.cell? ⟨w.heap.size, 0, none⟩ = some (.int .i64 a) := by rw [hW]; exact cell_new rfl rfl
  have k3 : W.cell? ⟨w.heap.size, 1, none⟩ = some (.int .i64 b) := by rw [hW]; exact cell_new rfl rfl
  rw [← hW] at T0 ra rt
  have HW := Lib.hid hW
  clear hW hl hts ha hta
  go_enter Try.func127, Try.ntmps127
  go_wp2
  rw [← HW.out]
  go_loopw [21] (fun q wr => ∃ k : Nat, k ≤ ds.length ∧ q = .int .i64 k ∧ ((decks ds).take k).any (fun L => !deckOk L) = false ∧ Below W.heap.size W wr) (fun q _ => ds.length - (intOf q).toNat)
  case atStart => exact ⟨0, by omega, rfl, rfl, b0 _⟩
  case round =>
    obtain ⟨k, hk, rfl, hno, hbw⟩ := hrel
    have HNO := Lib.hid hno
    clear hno
    have rb := ra.up hbw
    by_cases hlt : k < ds.length
    · have HKL := Lib.hid (show k < (decks ds).length by rw [HDL.out]; exact hlt)
      have HAT := Lib.hid (show (decks ds)[k]'HKL.out = cards ds[k].hs by simp [decks])
      have i1 : (k : Int) < (ds.length : Int) := by omega
      have rd := rb.deck_at hlt
      have hlk := HL.out k hlt
      obtain ⟨b1, o1, rfl, _, hc⟩ := rb.at_ hlt
      have d1 := hc k hlt
      clear hc rb
      rcases Bool.eq_false_or_eq_true (deckOk (cards ds[k].hs)) with hp | hp
      · have HP := Lib.hid (any_take_succ (p := fun L => !deckOk L) HKL.out HNO.out (by rw [HAT.out, hp]; rfl))
        go_wp2_with fail
        refine (ValidDeck_w _ _ ds[k].hs _ rd hlk).mono ?_; rintro e w1 ⟨rfl, hb1⟩
        go_wp2
        go_roundw
        case rel => exact ⟨k + 1, by omega, by go_num, HP.out, bs hbw hb1⟩
        case measure => simp [intOf]; omega
      · have HP := Lib.hid (colC_1 (v := false) (ts := ts) (a := a) (b := b) (all_bad (p := deckOk) HKL.out (by rw [HAT.out]; exact hp)))
        go_wp2_with fail
        refine (ValidDeck_w _ _ ds[k].hs _ rd hlk).mono ?_; rintro e w1 ⟨rfl, hb1⟩
        go_wp2
        go_ret
        exact ⟨ret_int HP.out.symm, bs T0 (bs hbw hb1)⟩
    · have HP := Lib.hid (@colC_v (decks ds) ts a b)
      go_wp2
      go_ret
      exact ⟨ret_int HP.out.symm, bs T0 hbw⟩

set_option maxRecDepth 100000 in
set_option maxHeartbeats 8000000 in
theorem collateCode_any (a b : Int) (TA : Option Addr) (ct : Nat) (ts : List ByteArray) (E : Option Addr) (ce : Nat) (ds : List Dk) (w : World) (ha : RdDD w w.heap.size E ds) (hd1 : 0 < ds.length) (hdn : ds.length ≤ 1048576) (hl : ∀ k (h : k < ds.length), ds[k].hs.length + tot ds[k].hs ≤ 1048576)
    (hta : Rd w w.heap.size 1 TA ts.length (strv ts)) (htl : ts.length ≤ 1048576) (hts : ∀ k (h : k < ts.length), ts[k].size ≤ 1048576) :
    Calls Try.prog 127 #[.agg #[.int .i64 a, .int .i64 b], .bool true, .slice TA ts.length ct, .slice E ds.length ce] w fun e w' => e = .returned (.int .i64 (colC (decks ds) true ts a b)) ∧ Below w.heap.size w w' := by
  have HDL := Lib.hid (decks_length ds)
  have HL := Lib.hid hl
  have HTS := Lib.hid hts
  have T0 : Below w.heap.size w (w.alloc (.cells #[.int .i64 a, .int .i64 b] 27)) := ba (b0 w) _
  have ra := ha.a1 (.cells #[.int .i64 a, .int .i64 b] 27)
  have rt := hta.a1 (.cells #[.int .i64 a, .int .i64 b] 27)
  obtain ⟨W, hW⟩ : ∃ W, W = w.alloc (.cells #[.int .i64 a, .int .i64 b] 27) := ⟨_, rfl⟩
  have k2 : W.cell? ⟨w.heap.size, 0, none⟩ = some (.int .i64 a) := by rw [hW]; exact cell_new rfl rfl
  have k3 : W.cell? ⟨w.heap.size, 1, none⟩ = some (.int .i64 b) := by rw [hW]; exact cell_new rfl rfl
  rw [← hW] at T0 ra rt
  have HW := Lib.hid hW
  clear hW hl hts ha hta
  go_enter Try.func127, Try.ntmps127
  go_wp2
  rw [← HW.out]
  go_loopw [21] (fun q wr => ∃ k : Nat, k ≤ ds.length ∧ q = .int .i64 k ∧ ((decks ds).take k).any (fun L => !deckOk L) = false ∧ Below W.heap.size W wr) (fun q _ => ds.length - (intOf q).toNat)
  case atStart => exact ⟨0, by omega, rfl, rfl, b0 _⟩
  case round =>
    obtain ⟨k, hk, rfl, hno, hbw⟩ := hrel
    have HNO := Lib.hid hno
    clear hno
    have rb := ra.up hbw
    by_cases hlt : k < ds.length
    · have HKL := Lib.hid (show k < (decks ds).length by rw [HDL.out]; exact hlt)
      have HAT := Lib.hid (show (decks ds)[k]'HKL.out = cards ds[k].hs by simp [decks])
      have i1 : (k : Int) < (ds.length : Int) := by omega
      have rd := rb.deck_at hlt
      have hlk := HL.out k hlt
      obtain ⟨b1, o1, rfl, _, hc⟩ := rb.at_ hlt
      have d1 := hc k hlt
      clear hc rb
      rcases Bool.eq_false_or_eq_true (deckOk (cards ds[k].hs)) with hp | hp
      · have HP := Lib.hid (any_take_succ (p := fun L => !deckOk L) HKL.out HNO.out (by rw [HAT.out, hp]; rfl))
        go_wp2_with fail
        refine (ValidDeck_any _ _ ds[k].hs _ rd hlk).mono ?_; rintro e w1 ⟨rfl, hb1⟩
        go_wp2
        go_roundw
        case rel => exact ⟨k + 1, by omega, by go_num, HP.out, bs hbw hb1⟩
        case measure => simp [intOf]; omega
      · have HP := Lib.hid (colC_1 (v := true) (ts := ts) (a := a) (b := b) (all_bad (p := deckOk) HKL.out (by rw [HAT.out]; exact hp)))
        go_wp2_with fail
        refine (ValidDeck_any _ _ ds[k].hs _ rd hlk).mono ?_; rintro e w1 ⟨rfl, hb1⟩
        go_wp2
        go_ret
        exact ⟨ret_int HP.out.symm, bs T0 (bs hbw hb1)⟩
    · have HD := Lib.hid (all_of_none (p := deckOk) (by rw [HDL.out]; exact hlt) HNO.out)
      obtain rfl : k = ds.length := by omega
      clear HNO
      obtain ⟨W2, hW2⟩ : ∃ W2 : World, W2 = wr := ⟨_, rfl⟩
      subst hW2
      have k4 := cell_later hbw k2
      have k5 := cell_later hbw k3
      have T2 := bs T0 hbw
      have rt2 := rt.up hbw
      clear hbw k2 k3 ra rt T0
      go_wp2
      go_loopw [33] (fun q wr => ∃ k : Nat, k ≤ ds.length ∧ q = .int .i64 k ∧ ((decks ds).take k).any (fun L => !fieldOk a b (deckW L : Int)) = false ∧ Below W2.heap.size W2 wr) (fun q _ => ds.length - (intOf q).toNat)
      case atStart => exact ⟨0, by omega, rfl, rfl, b0 _⟩
      case round =>
        obtain ⟨k, hk, rfl, hno, hbw⟩ := hrel
        have HNO := Lib.hid hno
        clear hno
        have rc := rb.up hbw
        by_cases hlt : k < ds.length
        · have HKL := Lib.hid (show k < (decks ds).length by rw [HDL.out]; exact hlt)
          have HAT := Lib.hid (show (decks ds)[k]'HKL.out = cards ds[k].hs by simp [decks])
          have i1 : (k : Int) < (ds.length : Int) := by omega
          have rd := rc.deck_at hlt
          have hlk := HL.out k hlt
          obtain ⟨b1, o1, rfl, _, hc⟩ := rc.at_ hlt
          have d1 := hc k hlt
          have m2 := cell_later hbw k4
          have m3 := cell_later hbw k5
          have l2 := fun x : Later wr => lat_cell x m2
          have l3 := fun x : Later wr => lat_cell x m3
          clear hc rc
          rcases Bool.eq_false_or_eq_true (fieldOk a b (deckW (cards ds[k].hs) : Int)) with hp | hp
          · have HP := Lib.hid (any_take_succ (p := fun L => !fieldOk a b (deckW L : Int)) HKL.out HNO.out (by rw [HAT.out, hp]; rfl))
            go_wp2_with fail
            refine wp_region_later (by kernel_rfl) (by kernel_rfl) ?_
            repeat (go_big_quiet_step ((first | (go_at_call 128; exact lat_call (deckColumns_any _ _ ds[k].hs _ (rd.up (Later.below _)) hlk)) | (go_at_call 215; exact lat_call (isField_any _ _ _ _)))))
            refine wpQuiet_nil ?_
            intro w2 hb2
            go_wp2
            go_roundw
            case rel => exact ⟨k + 1, by omega, by go_num, HP.out, bs hbw hb2⟩
            case measure => simp [intOf]; omega
          · have HP := Lib.hid (colC_2 (ts := ts) HD.out (all_bad (p := fun L => fieldOk a b (deckW L : Int)) HKL.out (by rw [HAT.out]; exact hp)))
            go_wp2_with fail
            refine wp_region_later (by kernel_rfl) (by kernel_rfl) ?_
            repeat (go_big_quiet_step ((first | (go_at_call 128; exact lat_call (deckColumns_any _ _ ds[k].hs _ (rd.up (Later.below _)) hlk)) | (go_at_call 215; exact lat_call (isField_any _ _ _ _)))))
            refine wpQuiet_nil ?_
            intro w2 hb2
            go_wp2
            go_ret
            exact ⟨ret_int HP.out.symm, bs T2 (bs hbw hb2)⟩
        · have HF := Lib.hid (all_of_none (p := fun L => fieldOk a b (deckW L : Int)) (by rw [HDL.out]; exact hlt) HNO.out)
          have hfk : ∀ k (h : k < ds.length), fieldOk a b (deckW (cards ds[k].hs) : Int) = true := fun k h => by
            have := List.all_eq_true.1 HF.out ((decks ds)[k]'(by rw [HDL.out]; exact h)) (List.getElem_mem (by rw [HDL.out]; exact h))
            simpa [decks] using this
          have hdk : ∀ k (h : k < ds.length), deckOk (cards ds[k].hs) = true := fun k h => by
            have := List.all_eq_true.1 HD.out ((decks ds)[k]'(by rw [HDL.out]; exact h)) (List.getElem_mem (by rw [HDL.out]; exact h))
            simpa [decks] using this
          obtain ⟨i, j, hi, hj, hij, hj0⟩ := fieldOk_nat (hfk 0 hd1)
          have hj20 : j ≤ 20 := Nat.le_trans hj0 (deckOk_wid (hdk 0 hd1)).1
          have HFK := Lib.hid (fun k (h : k < ds.length) => fieldOk_true (hfk k h))
          have HDK := Lib.hid hdk
          subst hi
          subst hj
          obtain rfl : k = ds.length := by omega
          clear HNO hfk hdk
          obtain ⟨W3, hW3⟩ : ∃ W3 : World, W3 = wr := ⟨_, rfl⟩
          subst hW3
          replace k4 := cell_later hbw k4
          replace k5 := cell_later hbw k5
          have T3 := bs T2 hbw
          have rt3 := rt2.up hbw
          have rb3 := rc
          clear hbw rb rc rt2 T2
          go_wp2
          go_loopw [45] (fun q wr => ∃ k : Nat, k ≤ ts.length ∧ q = .int .i64 k ∧ (ts.take k).any (fun t => !lenB (i : Int) (j : Int) t) = false ∧ W3 = wr) (fun q _ => ts.length - (intOf q).toNat)
          case atStart => exact ⟨0, by omega, rfl, rfl, rfl⟩
          case round =>
            obtain ⟨k, hk, rfl, hno, rfl⟩ := hrel
            have HNO := Lib.hid hno
            clear hno
            by_cases hlt : k < ts.length
            · have i1 : (k : Int) < (ts.length : Int) := by omega
              have htk := HTS.out k hlt
              obtain ⟨b1, o1, rfl, _, hc⟩ := rt3.at_ hlt
              have d1 := hc k _ (strv_get ts k hlt)
              clear hc
              by_cases hp : (ts[k].size : Int) = (j : Int) - (i : Int)
              · have HP := Lib.hid (any_take_succ (p := fun t => !lenB (i : Int) (j : Int) t) hlt HNO.out (by unfold lenB; rw [beq_t hp]; rfl))
                have e1 := bne_f hp
                clear hp
                go_wp2
                go_roundw
                case rel => exact ⟨k + 1, by omega, by go_num, HP.out, by first | rfl | trivial⟩
                case measure => simp [intOf]; omega
              · have HP := Lib.hid (colC_3 HD.out HF.out (all_bad (p := lenB (i : Int) (j : Int)) hlt (by unfold lenB; exact beq_f hp)))
                have e1 := bne_t hp
                clear hp
                go_wp2
                go_ret
                exact ⟨ret_int HP.out.symm, T3⟩
            · have HTL := Lib.hid (all_of_none (p := lenB (i : Int) (j : Int)) hlt HNO.out)
              obtain rfl : k = ts.length := by omega
              clear HNO
              go_wp2
              go_loopw [60] (fun q wr => ∃ k : Nat, k ≤ ts.length ∧ q = .int .i64 k ∧ (ts.take k).any (fun t => !chaB t) = false ∧ W3 = wr) (fun q _ => ts.length - (intOf q).toNat)
              case atStart => exact ⟨0, by omega, rfl, rfl, rfl⟩
              case round =>
                obtain ⟨k, hk, rfl, hno, rfl⟩ := hrel
                have HNO := Lib.hid hno
                clear hno
                by_cases hlt : k < ts.length
                · have i1 : (k : Int) < (ts.length : Int) := by omega
                  have htk := HTS.out k hlt
                  obtain ⟨b1, o1, rfl, _, hc⟩ := rt3.at_ hlt
                  have d1 := hc k _ (strv_get ts k hlt)
                  clear hc
                  rcases Bool.eq_false_or_eq_true ((byt ts[k]).all chB) with hp | hp
                  · have HP := Lib.hid (any_take_succ (p := fun t => !chaB t) hlt HNO.out (by unfold chaB; rw [hp]; rfl))
                    go_wp2_with fail
                    refine (areCharacters_any ts[k] _ htk).mono ?_; rintro e w1 ⟨rfl, rfl⟩
                    go_wp2
                    go_roundw
                    case rel => exact ⟨k + 1, by omega, by go_num, HP.out, by first | rfl | trivial⟩
                    case measure => simp [intOf]; omega
                  · have HP := Lib.hid (colC_7 HD.out HF.out HTL.out (all_bad (p := chaB) hlt hp))
                    go_wp2_with fail
                    refine (areCharacters_any ts[k] _ htk).mono ?_; rintro e w1 ⟨rfl, rfl⟩
                    go_wp2
                    go_ret
                    exact ⟨ret_int HP.out.symm, T3⟩
                · have HTC := Lib.hid (all_of_none (p := chaB) hlt HNO.out)
                  obtain rfl : k = ts.length := by omega
                  clear HNO
                  go_wp2
                  go_loopw [70] (fun q wr => ∃ k : Nat, k ≤ ds.length ∧ q = .int .i64 k ∧ ((decks ds).take k).any (fun L => !haveF L (i : Int) (j : Int)) = false ∧ Below W3.heap.size W3 wr) (fun q _ => ds.length - (intOf q).toNat)
                  case atStart => exact ⟨0, by omega, rfl, rfl, b0 _⟩
                  case round =>
                    obtain ⟨k, hk, rfl, hno, hbw⟩ := hrel
                    have HNO := Lib.hid hno
                    clear hno
                    by_cases hlt : k < ds.length
                    · have HKL := Lib.hid (show k < (decks ds).length by rw [HDL.out]; exact hlt)
                      have HAT := Lib.hid (show (decks ds)[k]'HKL.out = cards ds[k].hs by simp [decks])
                      have i1 : (k : Int) < (ds.length : Int) := by omega
                      have rc := rb3.up hbw
                      have rd := rc.deck_at hlt
                      have hlk := HL.out k hlt
                      have hjk : j ≤ deckW (cards ds[k].hs) := by have := (HFK.out k hlt).2.2; omega
                      obtain ⟨b1, o1, rfl, _, hc⟩ := rc.at_ hlt
                      have d1 := hc k hlt
                      have m2 := cell_later hbw k4
                      have m3 := cell_later hbw k5
                      clear hc rc
                      rcases Bool.eq_false_or_eq_true (haveF (cards ds[k].hs) (i : Int) (j : Int)) with hp | hp
                      · have HP := Lib.hid (any_take_succ (p := fun L => !haveF L (i : Int) (j : Int)) HKL.out HNO.out (by rw [HAT.out, hp]; rfl))
                        go_wp2_with fail
                        refine (haveField_any _ _ ds[k].hs i j _ rd (HDK.out k hlt) hij hjk hlk).mono ?_; rintro e w1 ⟨rfl, hb1⟩
                        go_wp2
                        go_roundw
                        case rel => exact ⟨k + 1, by omega, by go_num, HP.out, bs hbw hb1⟩
                        case measure => simp [intOf]; omega
                      · have HP := Lib.hid (colC_8 HD.out HF.out HTL.out HTC.out (all_bad (p := fun L => haveF L (i : Int) (j : Int)) HKL.out (by rw [HAT.out]; exact hp)))
                        go_wp2_with fail
                        refine (haveField_any _ _ ds[k].hs i j _ rd (HDK.out k hlt) hij hjk hlk).mono ?_; rintro e w1 ⟨rfl, hb1⟩
                        go_wp2
                        go_ret
                        exact ⟨ret_int HP.out.symm, bs T3 (bs hbw hb1)⟩
                    · have HV := Lib.hid (colC_0 HD.out HF.out HTL.out HTC.out (all_of_none (p := fun L => haveF L (i : Int) (j : Int)) (by rw [HDL.out]; exact hlt) HNO.out))
                      go_wp2
                      go_ret
                      exact ⟨ret_int HV.out.symm, bs T3 hbw⟩

/-- One deck lies in a cell of its own. -/
theorem rdd_one {w : World} {g : Nat} {D : Option Addr} {c : Nat} {hs : List Hd} (h : w.cell? ⟨g, 0, none⟩ = some (.slice D hs.length c)) (ha : RdD w w.heap.size D hs) (hc : hs.length ≤ c) : RdDD w w.heap.size (some ⟨g, 0, none⟩) [⟨D, c, hs, 0, 0⟩] := by
  refine ⟨⟨rfl, fun _ => ⟨g, 0, rfl, World.block_lt_of_cell? _ _ h, fun j u hu => ?_⟩⟩, ?_, ?_⟩
  · match j with
    | 0 => simp [dheads, Dk.cell] at hu; subst hu; exact h
    | j + 1 => simp [dheads] at hu
  · intro d hd
    rw [List.mem_singleton] at hd
    subst hd
    exact ha
  · intro d hd
    rw [List.mem_singleton] at hd
    subst hd
    exact hc
set_option maxHeartbeats 1000000 in
theorem collate1_any (a b : Int) (g : Nat) (D : Option Addr) (c : Nat) (hs : List Hd) (w : World) (h : w.cell? ⟨g, 0, none⟩ = some (.slice D hs.length c)) (ha : RdD w w.heap.size D hs) (hc : hs.length ≤ c) (hl : hs.length + tot hs ≤ 1048576) :
    Calls Try.prog 127 #[.agg #[.int .i64 a, .int .i64 b], .bool true, .slice none 0 0, .slice (some ⟨g, 0, none⟩) 1 1] w fun e w' => e = .returned (.int .i64 (codeK (cards hs) a b)) ∧ Below w.heap.size w w' := by
  have := collateCode_any a b none 0 [] (some ⟨g, 0, none⟩) 1 [⟨D, c, hs, 0, 0⟩] w (rdd_one h ha hc) (by simp) (by simp) (fun k hk => by simp at hk; subst hk; exact hl) (Rd.nil _ _ _ _) (by simp) (fun k hk => by simp at hk)
  rwa [show decks [(⟨D, c, hs, 0, 0⟩ : Dk)] = [cards hs] from rfl, colC_one] at this
end Go.Proofs.Ytdppmlchabogaaa
