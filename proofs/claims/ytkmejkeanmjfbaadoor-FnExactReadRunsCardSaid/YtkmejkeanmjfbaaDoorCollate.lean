/- The code of decks, a field and texts, in the program. -/
import Derived.Test.YtkmejkeanmjfbaaDoorKeysAll
import Derived.Test.YtkmejkeanmjfbaaDoorDecks2
import Derived.Lib.Strings
import Derived.Lib.Slices
import Derived.Lib.Walk
import Derived.Lib.Bytealg
namespace Go.Proofs.YtkmejkeanmjfbaaDoor
open Go.RowKit

set_option maxHeartbeats 1000000 in
set_option maxRecDepth 100000 in
theorem sliteIndexByte_any (s : ByteArray) (c : Int) (w : World) :
    Calls Tryd.prog 56 #[.string s, .int .u8 c] w fun e w' => e = .returned (.int .i64 (Lib.indexByte s.data.toList c.toNat.toUInt8)) ∧ w = w' := by
  go_enter Tryd.func56, Tryd.ntmps56
  go_wp2
  rw [run_callFunc_extern Tryd.func69 (by kernel_rfl) (by kernel_rfl) (by kernel_rfl) (e := Extern.BytealgIndexByte.indexByte) (by kernel_rfl), Lib.run_indexByteString]
  simp only [Result.andThen]
  rw [Oper.upon_value]
  go_wp2
  go_ret
  exact ⟨rfl, rfl⟩
/-- Is a byte a character? -/
def chB (c : UInt8) : Bool := decide (0 ≤ codeV c.toNat)
theorem chB_index (c : UInt8) : decide (0 ≤ Lib.indexByte charL c) = chB c := by
  have h : ∀ n : Fin 256, decide (0 ≤ Lib.indexByte charL (UInt8.ofNat n.val)) = chB (UInt8.ofNat n.val) := by decide +kernel
  have := h ⟨c.toNat, UInt8.toNat_lt c⟩
  simpa using this
def strv (ts : List ByteArray) : List Value := ts.map Value.string
theorem strv_length (ts : List ByteArray) : (strv ts).length = ts.length := by simp [strv]
theorem strv_get (ts : List ByteArray) (k : Nat) (h : k < ts.length) : (strv ts)[k]? = some (.string ts[k]) := by simp [strv, h]
def lenB (a b : Int) (t : ByteArray) : Bool := (t.size : Int) == b - a
def chaB (t : ByteArray) : Bool := (byt t).all chB
/-- The code of decks, a field and texts. -/
def colC (Ls : List (List (List Int))) (v : Bool) (ts : List ByteArray) (a b : Int) : Int :=
  if Ls.all deckOk = true then (if v = true then (if Ls.all (fun L => fieldOk a b (deckW L : Int)) = true then (if ts.all (lenB a b) = true then (if ts.all chaB = true then (if Ls.all (fun L => haveF L a b) = true then 0 else 8) else 7) else 2) else 2) else 1) else 1
theorem colC_1 {Ls : List (List (List Int))} {v : Bool} {ts : List ByteArray} {a b : Int} (h : Ls.all deckOk = false) : colC Ls v ts a b = 1 := by unfold colC; rw [if_neg (by simp [h])]
theorem colC_v {Ls : List (List (List Int))} {ts : List ByteArray} {a b : Int} : colC Ls false ts a b = 1 := by unfold colC; split <;> rfl
theorem colC_2 {Ls : List (List (List Int))} {ts : List ByteArray} {a b : Int} (h : Ls.all deckOk = true) (h2 : Ls.all (fun L => fieldOk a b (deckW L : Int)) = false) : colC Ls true ts a b = 2 := by unfold colC; rw [if_pos h, if_pos rfl, if_neg (by simp [h2])]
theorem colC_3 {Ls : List (List (List Int))} {ts : List ByteArray} {a b : Int} (h : Ls.all deckOk = true) (h2 : Ls.all (fun L => fieldOk a b (deckW L : Int)) = true) (h3 : ts.all (lenB a b) = false) : colC Ls true ts a b = 2 := by unfold colC; rw [if_pos h, if_pos rfl, if_pos h2, if_neg (by simp [h3])]
theorem colC_7 {Ls : List (List (List Int))} {ts : List ByteArray} {a b : Int} (h : Ls.all deckOk = true) (h2 : Ls.all (fun L => fieldOk a b (deckW L : Int)) = true) (h3 : ts.all (lenB a b) = true) (h4 : ts.all chaB = false) : colC Ls true ts a b = 7 := by
  unfold colC; rw [if_pos h, if_pos rfl, if_pos h2, if_pos h3, if_neg (by simp [h4])]
theorem colC_8 {Ls : List (List (List Int))} {ts : List ByteArray} {a b : Int} (h : Ls.all deckOk = true) (h2 : Ls.all (fun L => fieldOk a b (deckW L : Int)) = true) (h3 : ts.all (lenB a b) = true) (h4 : ts.all chaB = true) (h5 : Ls.all (fun L => haveF L a b) = false) : colC Ls true ts a b = 8 := by
  unfold colC; rw [if_pos h, if_pos rfl, if_pos h2, if_pos h3, if_pos h4, if_neg (by simp [h5])]
theorem colC_0 {Ls : List (List (List Int))} {ts : List ByteArray} {a b : Int} (h : Ls.all deckOk = true) (h2 : Ls.all (fun L => fieldOk a b (deckW L : Int)) = true) (h3 : ts.all (lenB a b) = true) (h4 : ts.all chaB = true) (h5 : Ls.all (fun L => haveF L a b) = true) : colC Ls true ts a b = 0 := by
  unfold colC; rw [if_pos h, if_pos rfl, if_pos h2, if_pos h3, if_pos h4, if_pos h5]
/-- One deck, no texts. -/
theorem colC_one (L : List (List Int)) (a b : Int) : colC [L] true [] a b = codeK L a b := by simp [colC, codeK]
theorem all_of_none {α : Type} {p : α → Bool} {l : List α} {k : Nat} (hk : ¬ k < l.length) (h : (l.take k).any (fun x => !p x) = false) : l.all p = true := by
  have h1 := any_take_all hk h
  rw [any_not_allI] at h1
  simpa using h1
theorem all_bad {α : Type} {p : α → Bool} {l : List α} {k : Nat} (hk : k < l.length) (h : p l[k] = false) : l.all p = false := List.all_eq_false.2 ⟨l[k], List.getElem_mem hk, by simp [h]⟩

/-- One deck lies in a cell of its own. -/
theorem rdd_one {w : World} {g : Nat} {D : Option Addr} {c : Nat} {hs : List Hd} (h : w.cell? ⟨g, 0, none⟩ = some (.slice D hs.length c)) (ha : RdD w w.heap.size D hs) (hc : hs.length ≤ c) : RdDD w w.heap.size (some ⟨g, 0, none⟩) [⟨D, c, hs, 0, 0⟩] := by
  refine ⟨⟨rfl, fun _ => ⟨g, 0, rfl, World.block_lt_of_cell? _ _ h, fun j u hu => ?_⟩⟩, ?_, ?_⟩
  · match j with
    | 0 => simp [dheads, Dk.cell] at hu; subst hu; exact h
    | j + 1 => simp [dheads] at hu
  · intro d hd
    rw [List.mem_singleton] at hd
    subst hd
    exact ha
  · intro d hd
    rw [List.mem_singleton] at hd
    subst hd
    exact hc
end Go.Proofs.YtkmejkeanmjfbaaDoor
