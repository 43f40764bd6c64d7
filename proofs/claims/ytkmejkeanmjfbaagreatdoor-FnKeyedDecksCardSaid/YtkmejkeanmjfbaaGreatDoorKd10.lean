/- Fields of cards: their characters, their texts, comparing; in the program and in the reference. The texts of a field of all cards, the steps, the groups; in the program and in the reference. Steps and groups; IsSorted, FirstStep; in the program and in the reference. The code of decks, a field and texts, in the program. LaceColumn in the program and in the reference. -/
import Derived.Test.YtkmejkeanmjfbaaGreatDoorKd9
import Derived.Laws.IdiomStrings
import Derived.IntWalk
import Derived.Test.YtkmejkeanmjfbaaGreatDoorKd6
import Derived.Lib.Strings
import Derived.Lib.Slices
import Derived.Lib.Walk
import Derived.Lib.Bytealg
import Derived.Test.YtkmejkeanmjfbaaGreatDoorKd5
/-! ### KeysAll -/
/-! ### Fields of cards: their characters, their texts, comparing; in the program and in the reference. -/
namespace Go.Proofs.YtkmejkeanmjfbaaGreatDoor
open Go.RowKit

theorem info_u8K : (Tryz.prog.info? 5).map (fun i => (i.zero, i.size, i.bytes)) = some (some (.int .u8 0), 1, 1) := by kernel_rfl
theorem info_strK : (Tryz.prog.info? 9).map (fun i => (i.zero, i.size, i.bytes)) = some (some (.string ⟨#[]⟩), 1, 16) := by kernel_rfl

theorem haveF_any (L : List (List Int)) (a b : Int) : (!(L.any fun x => !legalL (part x a b))) = haveF L a b := by
  rw [any_not_allI]
  simp [haveF]
theorem codeK_z {L : List (List Int)} {a b : Int} {q : Bool} (h : deckOk L = true) (h2 : fieldOk a b (deckW L : Int) = true) (h3 : haveF L a b = q) : codeK L a b = if q = true then 0 else 8 := by unfold codeK; rw [if_pos h, if_pos h2, h3]
/-! ### the reference's texts -/
def byts (s : List UInt8) : List Value := s.map fun b => .int .u8 (b.toNat : Int)
theorem byts_length (s : List UInt8) : (byts s).length = s.length := by simp [byts]
theorem byts_get (s : List UInt8) (k : Nat) (h : k < s.length) : (byts s)[k]? = some (.int .u8 (s[k].toNat : Int)) := by simp [byts, h]
theorem byts_snoc (s : List UInt8) (b : UInt8) : byts (s ++ [b]) = byts s ++ [.int .u8 (b.toNat : Int)] := by simp [byts]
theorem textL_snoc (xs : List Int) (k : Nat) (h : k < xs.length) : textL (xs.take (k + 1)) = textL (xs.take k) ++ [charM xs[k]] := by
  unfold textL
  rw [List.take_succ_eq_append_getElem h, List.map_append]
  rfl
theorem conv_text {w : World} {base g n cap : Nat} {s : List UInt8} (ho : w.ownsRow base 5 1 (.slice (some ⟨g, 0, none⟩) n cap) n (byts s)) :
    (convert 22 9 (.slice (some ⟨g, 0, none⟩) n cap)).run Tryz.prog w = .ok (.string (bs_ s)) w := by
  have hn : n = s.length := by have := ho.1; rw [byts_length, Nat.mul_one] at this; exact this.symm
  subst hn
  refine run_convert_bytes_back w 22 9 5 ⟨g, 0, none⟩ cap s Tryz.underlying22 Tryz.underlying5 Tryz.underlying9 ?_
  intro j hj
  have h1 := own_cell ho j (by rw [byts_length]; exact hj)
  rw [Addr.add_lit, Nat.zero_add, h1]
  simp [byts]
def keyT (xs : List Int) : List UInt8 := if legalL xs = true then textL xs else []
theorem keyT_yes {xs : List Int} (h : legalL xs = true) : keyT xs = textL xs := by unfold keyT; rw [if_pos h]
theorem keyT_no {xs : List Int} (h : legalL xs = false) : keyT xs = [] := by unfold keyT; rw [if_neg (by simp [h])]
theorem ret_sb {s t : List UInt8} {p q : Bool} (h : s = t) (k : p = q) : Ending.returned (.tuple #[.string (bs_ s), .bool p]) = .returned (.tuple #[.string (bs_ t), .bool q]) := by rw [h, k]

end Go.Proofs.YtkmejkeanmjfbaaGreatDoor

/-! ### The texts of a field of all cards, the steps, the groups; in the program and in the reference. -/
namespace Go.Proofs.YtkmejkeanmjfbaaGreatDoor
open Go.RowKit

theorem part_deck {L : List (List Int)} (hok : deckOk L = true) {i j : Nat} (hij : i < j) (hj : j ≤ deckW L) {k : Nat} (hk : k < L.length) : (part L[k] (i : Int) (j : Int)).length = j - i ∧ j ≤ L[k].length := by
  have h1 := (deckOk_card hok hk).2
  have h2 : deckW L = wid0 L := by unfold deckW; rw [if_neg (by omega)]
  exact ⟨part_len hij (by omega), by omega⟩
theorem ret_kk {K : Option Addr} {n m ck : Nat} {a b : Int} (h : a = b) (k : n = m) : Ending.returned (.tuple #[.slice K n ck, .int .i64 a]) = .returned (.tuple #[.slice K m ck, .int .i64 b]) := by rw [h, k]

/-- Behind k cards. -/
def KyR (L : List (List Int)) (i j : Nat) (w wr : World) (o q : Value) : Prop := ∃ (k : Nat) (G : Option Addr) (cg : Nat), k ≤ L.length ∧ q = .int .i64 k ∧ o = .slice G k cg ∧ (L.take k).any (fun x => !legalL (part x (i : Int) (j : Int))) = false ∧
  wr.ownsRow w.heap.size 9 1 (.slice G k cg) k (strs (keysL (L.take k) (i : Int) (j : Int))) ∧ Below w.heap.size w wr

end Go.Proofs.YtkmejkeanmjfbaaGreatDoor

/-! ### Steps and groups; IsSorted, FirstStep; in the program and in the reference. -/
namespace Go.Proofs.YtkmejkeanmjfbaaGreatDoor
open Go.RowKit

theorem ret_bk {p q : Bool} {a b : Int} (h : p = q) (k : a = b) : Ending.returned (.tuple #[.bool p, .int .i64 a]) = .returned (.tuple #[.bool q, .int .i64 b]) := by rw [h, k]
theorem ret_ik {a b c d : Int} (h : a = b) (k : c = d) : Ending.returned (.tuple #[.int .i64 a, .int .i64 c]) = .returned (.tuple #[.int .i64 b, .int .i64 d]) := by rw [h, k]
theorem beq_zero_dec (n : Nat) : ((n : Int) == 0) = decide (n = 0) := by
  rw [Bool.eq_iff_iff]
  simp
theorem info_i64K : (Tryz.prog.info? 2).map (fun i => (i.zero, i.size, i.bytes)) = some (some (.int .i64 0), 1, 8) := by kernel_rfl
/-- Behind the cards before k. -/
def StR (L : List (List Int)) (i j : Nat) (w wr : World) (o q : Value) : Prop := ∃ (k : Nat) (g cg : Nat), 1 ≤ k ∧ k ≤ 41 ∧ q = .int .i64 k ∧ o = .slice (some ⟨g, 0, none⟩) (stepsL L (i : Int) (j : Int) (min k L.length)).length cg ∧
  wr.ownsRow w.heap.size 2 1 (.slice (some ⟨g, 0, none⟩) (stepsL L (i : Int) (j : Int) (min k L.length)).length cg) (stepsL L (i : Int) (j : Int) (min k L.length)).length (ints (stepsL L (i : Int) (j : Int) (min k L.length))) ∧ Below w.heap.size w wr

def srtRes (L : List (List Int)) (a b : Int) : Bool := if codeK L a b = 0 then decide ((stepsL L a b L.length).length = 0) else false
theorem srtRes_0 {L : List (List Int)} {a b : Int} (h : codeK L a b = 0) : srtRes L a b = decide ((stepsL L a b L.length).length = 0) := by unfold srtRes; rw [if_pos h]
theorem srtRes_1 {L : List (List Int)} {a b : Int} (h : codeK L a b ≠ 0) : srtRes L a b = false := by unfold srtRes; rw [if_neg h]
def fstRes (L : List (List Int)) (a b : Int) : Int := if codeK L a b = 0 then stepF L a b L.length else 0
theorem fstRes_0 {L : List (List Int)} {a b : Int} (h : codeK L a b = 0) : fstRes L a b = stepF L a b L.length := by unfold fstRes; rw [if_pos h]
theorem fstRes_1 {L : List (List Int)} {a b : Int} (h : codeK L a b ≠ 0) : fstRes L a b = 0 := by unfold fstRes; rw [if_neg h]

theorem head_cell {l : List Int} (h : 0 < l.length) : (ints l)[0]? = some (.int .i64 (l.headD (-1))) := by
  cases l with
  | nil => simp at h
  | cons a l => simp [ints]
end Go.Proofs.YtkmejkeanmjfbaaGreatDoor

/-! ### Collate -/
namespace Go.Proofs.YtkmejkeanmjfbaaGreatDoor
open Go.RowKit

set_option maxHeartbeats 1000000 in
set_option maxRecDepth 100000 in
theorem sliteIndexByte_any (s : ByteArray) (c : Int) (w : World) :
    Calls Tryz.prog 105 #[.string s, .int .u8 c] w fun e w' => e = .returned (.int .i64 (Lib.indexByte s.data.toList c.toNat.toUInt8)) ∧ w = w' := by
  go_enter Tryz.func105, Tryz.ntmps105
  go_wp2
  rw [run_callFunc_extern Tryz.func119 (by kernel_rfl) (by kernel_rfl) (by kernel_rfl) (e := Extern.BytealgIndexByte.indexByte) (by kernel_rfl), Lib.run_indexByteString]
  simp only [Result.andThen]
  rw [Oper.upon_value]
  go_wp2
  go_ret
  exact ⟨rfl, rfl⟩
theorem stringsIndexByte_any (s : ByteArray) (c : Int) (w : World) :
    Calls Tryz.prog 84 #[.string s, .int .u8 c] w fun e w' => e = .returned (.int .i64 (Lib.indexByte s.data.toList c.toNat.toUInt8)) ∧ w = w' := by
  go_enter Tryz.func84, Tryz.ntmps84
  go_wp2_with fail
  refine (sliteIndexByte_any s c _).mono ?_; rintro e w1 ⟨rfl, rfl⟩
  go_wp2
  go_ret
  exact ⟨rfl, rfl⟩
/-- Is a byte a character? -/
def chB (c : UInt8) : Bool := decide (0 ≤ codeV c.toNat)
theorem chB_index (c : UInt8) : decide (0 ≤ Lib.indexByte charL c) = chB c := by
  have h : ∀ n : Fin 256, decide (0 ≤ Lib.indexByte charL (UInt8.ofNat n.val)) = chB (UInt8.ofNat n.val) := by decide +kernel
  have := h ⟨c.toNat, UInt8.toNat_lt c⟩
  simpa using this
theorem isCharacter_any (c : UInt8) (w : World) :
    Calls Tryz.prog 45 #[.int .u8 (c.toNat : Int)] w fun e w' => e = .returned (.bool (chB c)) ∧ w = w' := by
  have HC := Lib.hid (chB_index c)
  have HI := Lib.hid (show Lib.indexByte charB.data.toList ((c.toNat : Int).toNat.toUInt8) = Lib.indexByte charL c by
    rw [Int.toNat_natCast, show c.toNat.toUInt8 = c by simp [Nat.toUInt8]]; rfl)
  have hcon := Lib.hid (stringsIndexByte_any charB (c.toNat : Int) w)
  obtain ⟨z, hz⟩ : ∃ z, z = Lib.indexByte charB.data.toList ((c.toNat : Int).toNat.toUInt8) := ⟨_, rfl⟩
  rw [← hz] at hcon
  have HZ := Lib.hid hz
  clear hz
  go_enter Tryz.func45, Tryz.ntmps45
  go_wp2_with fail
  refine hcon.out.mono ?_; rintro e w1 ⟨rfl, rfl⟩
  go_wp2
  go_ret
  exact ⟨ret_bool (by rw [← HC.out, ← HI.out, ← HZ.out]), rfl⟩
def strv (ts : List ByteArray) : List Value := ts.map Value.string
theorem strv_length (ts : List ByteArray) : (strv ts).length = ts.length := by simp [strv]
theorem strv_get (ts : List ByteArray) (k : Nat) (h : k < ts.length) : (strv ts)[k]? = some (.string ts[k]) := by simp [strv, h]
def lenB (a b : Int) (t : ByteArray) : Bool := (t.size : Int) == b - a
def chaB (t : ByteArray) : Bool := (byt t).all chB
/-- The code of decks, a field and texts. -/
def colC (Ls : List (List (List Int))) (v : Bool) (ts : List ByteArray) (a b : Int) : Int :=
  if Ls.all deckOk = true then (if v = true then (if Ls.all (fun L => fieldOk a b (deckW L : Int)) = true then (if ts.all (lenB a b) = true then (if ts.all chaB = true then (if Ls.all (fun L => haveF L a b) = true then 0 else 8) else 7) else 2) else 2) else 1) else 1
theorem colC_1 {Ls : List (List (List Int))} {v : Bool} {ts : List ByteArray} {a b : Int} (h : Ls.all deckOk = false) : colC Ls v ts a b = 1 := by unfold colC; rw [if_neg (by simp [h])]
theorem colC_v {Ls : List (List (List Int))} {ts : List ByteArray} {a b : Int} : colC Ls false ts a b = 1 := by unfold colC; split <;> rfl
theorem colC_2 {Ls : List (List (List Int))} {ts : List ByteArray} {a b : Int} (h : Ls.all deckOk = true) (h2 : Ls.all (fun L => fieldOk a b (deckW L : Int)) = false) : colC Ls true ts a b = 2 := by unfold colC; rw [if_pos h, if_pos rfl, if_neg (by simp [h2])]
theorem colC_3 {Ls : List (List (List Int))} {ts : List ByteArray} {a b : Int} (h : Ls.all deckOk = true) (h2 : Ls.all (fun L => fieldOk a b (deckW L : Int)) = true) (h3 : ts.all (lenB a b) = false) : colC Ls true ts a b = 2 := by unfold colC; rw [if_pos h, if_pos rfl, if_pos h2, if_neg (by simp [h3])]
theorem colC_7 {Ls : List (List (List Int))} {ts : List ByteArray} {a b : Int} (h : Ls.all deckOk = true) (h2 : Ls.all (fun L => fieldOk a b (deckW L : Int)) = true) (h3 : ts.all (lenB a b) = true) (h4 : ts.all chaB = false) : colC Ls true ts a b = 7 := by
  unfold colC; rw [if_pos h, if_pos rfl, if_pos h2, if_pos h3, if_neg (by simp [h4])]
theorem colC_8 {Ls : List (List (List Int))} {ts : List ByteArray} {a b : Int} (h : Ls.all deckOk = true) (h2 : Ls.all (fun L => fieldOk a b (deckW L : Int)) = true) (h3 : ts.all (lenB a b) = true) (h4 : ts.all chaB = true) (h5 : Ls.all (fun L => haveF L a b) = false) : colC Ls true ts a b = 8 := by
  unfold colC; rw [if_pos h, if_pos rfl, if_pos h2, if_pos h3, if_pos h4, if_neg (by simp [h5])]
theorem colC_0 {Ls : List (List (List Int))} {ts : List ByteArray} {a b : Int} (h : Ls.all deckOk = true) (h2 : Ls.all (fun L => fieldOk a b (deckW L : Int)) = true) (h3 : ts.all (lenB a b) = true) (h4 : ts.all chaB = true) (h5 : Ls.all (fun L => haveF L a b) = true) : colC Ls true ts a b = 0 := by
  unfold colC; rw [if_pos h, if_pos rfl, if_pos h2, if_pos h3, if_pos h4, if_pos h5]
/-- One deck, no texts. -/
theorem colC_one (L : List (List Int)) (a b : Int) : colC [L] true [] a b = codeK L a b := by simp [colC, codeK]
theorem all_of_none {α : Type} {p : α → Bool} {l : List α} {k : Nat} (hk : ¬ k < l.length) (h : (l.take k).any (fun x => !p x) = false) : l.all p = true := by
  have h1 := any_take_all hk h
  rw [any_not_allI] at h1
  simpa using h1
theorem all_bad {α : Type} {p : α → Bool} {l : List α} {k : Nat} (hk : k < l.length) (h : p l[k] = false) : l.all p = false := List.all_eq_false.2 ⟨l[k], List.getElem_mem hk, by simp [h]⟩

/-- One deck lies in a cell of its own. -/
theorem rdd_one {w : World} {g : Nat} {D : Option Addr} {c : Nat} {hs : List Hd} (h : w.cell? ⟨g, 0, none⟩ = some (.slice D hs.length c)) (ha : RdD w w.heap.size D hs) (hc : hs.length ≤ c) : RdDD w w.heap.size (some ⟨g, 0, none⟩) [⟨D, c, hs, 0, 0⟩] := by
  refine ⟨⟨rfl, fun _ => ⟨g, 0, rfl, World.block_lt_of_cell? _ _ h, fun j u hu => ?_⟩⟩, ?_, ?_⟩
  · match j with
    | 0 => simp [dheads, Dk.cell] at hu; subst hu; exact h
    | j + 1 => simp [dheads] at hu
  · intro d hd
    rw [List.mem_singleton] at hd
    subst hd
    exact ha
  · intro d hd
    rw [List.mem_singleton] at hd
    subst hd
    exact hc
end Go.Proofs.YtkmejkeanmjfbaaGreatDoor

/-! ### Lace -/
namespace Go.Proofs.YtkmejkeanmjfbaaGreatDoor
open Go.RowKit

def laceOk (xs : List Int) (n : Int) : Bool := cardOk xs && insideB n 0 ((xs.length : Int) - 1)
def laceRes (xs : List Int) (n : Int) : List Int := if laceOk xs n = true then xs.set n.toNat 4095 else []
def laceCode (xs : List Int) (n : Int) : Int := if cardOk xs = true then (if insideB n 0 ((xs.length : Int) - 1) = true then 0 else 2) else 1
theorem laceRes_length (xs : List Int) (n : Int) : (laceRes xs n).length ≤ 20 := by
  unfold laceRes
  split
  · rename_i h
    simp only [laceOk, Bool.and_eq_true] at h
    have := cardOk_len h.1
    simp
    omega
  · simp
theorem ints_set (xs : List Int) (k : Nat) (v : Int) : ints (xs.set k v) = (ints xs).set k (.int .i64 v) := by simp [ints, List.map_set]

end Go.Proofs.YtkmejkeanmjfbaaGreatDoor
