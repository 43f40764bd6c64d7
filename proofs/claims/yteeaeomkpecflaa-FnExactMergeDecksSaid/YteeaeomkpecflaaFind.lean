/- FindCards; in the program and in the reference. -/
import Derived.Test.YteeaeomkpecflaaSelectAll
import Derived.Test.YteeaeomkpecflaaKeysAll
import Derived.Test.YteeaeomkpecflaaNearAll
import Derived.Test.YteeaeomkpecflaaSortPass
namespace Go.Proofs.Yteeaeomkpecflaa
open Go.RowKit

/-- How many of the first k cards are below a text, and how many have it. -/
def lowP (s : ByteArray) (a b : Int) (x : List Int) : Bool := decide (cmpT (textL (part x a b)) (byt s) = -1)
def eqlP (s : ByteArray) (a b : Int) (x : List Int) : Bool := decide (cmpT (textL (part x a b)) (byt s) = 0)
def cntP (p : List Int → Bool) (L : List (List Int)) (k : Nat) : Int := (((L.take k).filter p).length : Int)
theorem cntP_yes {p : List Int → Bool} {L : List (List Int)} {k : Nat} (hk : k < L.length) (h : p L[k] = true) : cntP p L (k + 1) = cntP p L k + 1 := by
  unfold cntP
  rw [filter_yes hk h, List.length_append]
  simp
theorem cntP_no {p : List Int → Bool} {L : List (List Int)} {k : Nat} (hk : k < L.length) (h : p L[k] = false) : cntP p L (k + 1) = cntP p L k := by
  unfold cntP
  rw [filter_no hk h]
theorem cntP_range (p : List Int → Bool) (L : List (List Int)) (k : Nat) : 0 ≤ cntP p L k ∧ cntP p L k ≤ k := by
  unfold cntP
  have h1 := List.length_filter_le p (L.take k)
  have h2 := List.length_take_le k L
  omega
theorem cmpN_three : ∀ s t : List Int, cmpN s t = -1 ∨ cmpN s t = 0 ∨ cmpN s t = 1
  | [], _ => .inr (.inl (by simp [cmpN]))
  | _ :: _, [] => .inr (.inl (by simp [cmpN]))
  | x :: xs, y :: ys => by
    unfold cmpN
    split
    · exact .inl rfl
    · split
      · exact .inr (.inr rfl)
      · exact cmpN_three xs ys
def fndC (L : List (List Int)) (a b : Int) (s : ByteArray) : Int := if colC [L] true [s] a b = 0 then (if (stepsL L a b L.length).length = 0 then 0 else 6) else colC [L] true [s] a b
def fndA (L : List (List Int)) (a b : Int) (s : ByteArray) : Int := if fndC L a b s = 0 then cntP (lowP s a b) L L.length else 0
def fndB (L : List (List Int)) (a b : Int) (s : ByteArray) : Int := if fndC L a b s = 0 then cntP (eqlP s a b) L L.length else 0
theorem fndC_0 {L : List (List Int)} {a b : Int} {s : ByteArray} (h : colC [L] true [s] a b = 0) (h2 : (stepsL L a b L.length).length = 0) : fndC L a b s = 0 := by unfold fndC; rw [if_pos h, if_pos h2]
theorem fndC_6 {L : List (List Int)} {a b : Int} {s : ByteArray} (h : colC [L] true [s] a b = 0) (h2 : (stepsL L a b L.length).length ≠ 0) : fndC L a b s = 6 := by unfold fndC; rw [if_pos h, if_neg h2]
theorem fndC_e {L : List (List Int)} {a b : Int} {s : ByteArray} (h : colC [L] true [s] a b ≠ 0) : fndC L a b s = colC [L] true [s] a b := by unfold fndC; rw [if_neg h]
theorem fndA_0 {L : List (List Int)} {a b : Int} {s : ByteArray} (h : fndC L a b s = 0) : fndA L a b s = cntP (lowP s a b) L L.length := by unfold fndA; rw [if_pos h]
theorem fndB_0 {L : List (List Int)} {a b : Int} {s : ByteArray} (h : fndC L a b s = 0) : fndB L a b s = cntP (eqlP s a b) L L.length := by unfold fndB; rw [if_pos h]
theorem fndA_1 {L : List (List Int)} {a b : Int} {s : ByteArray} (h : fndC L a b s ≠ 0) : fndA L a b s = 0 := by unfold fndA; rw [if_neg h]
theorem fndB_1 {L : List (List Int)} {a b : Int} {s : ByteArray} (h : fndC L a b s ≠ 0) : fndB L a b s = 0 := by unfold fndB; rw [if_neg h]
theorem lowP_of {x : List Int} {s : ByteArray} {a b z : Int} (hz : z = cmpT (textL (part x a b)) (byt s)) : lowP s a b x = decide (z = -1) := by rw [hz]; rfl
theorem eqlP_of {x : List Int} {s : ByteArray} {a b z : Int} (hz : z = cmpT (textL (part x a b)) (byt s)) : eqlP s a b x = decide (z = 0) := by rw [hz]; rfl

set_option maxHeartbeats 1000000 in
theorem isAscending_any (D : Option Addr) (c : Nat) (hs : List Hd) (i j : Nat) (r : Bool) (w : World) (ha : RdD w w.heap.size D hs) (hok : deckOk (cards hs) = true) (hij : i < j) (hj : j ≤ deckW (cards hs)) (hl : hs.length + tot hs ≤ 1048576) (hr : r = decide ((stepsL (cards hs) (i : Int) (j : Int) (cards hs).length).length = 0)) :
    Calls Try.prog 67 #[.slice D hs.length c, .agg #[.int .i64 (i : Int), .int .i64 (j : Int)]] w fun e w' => e = .returned (.bool r) ∧ Below w.heap.size w w' := by
  have T0 : Below w.heap.size w (w.alloc (.cells #[.int .i64 (i : Int), .int .i64 (j : Int)] 31)) := ba (b0 w) _
  have ra := ha.a1 (.cells #[.int .i64 (i : Int), .int .i64 (j : Int)] 31)
  have HCL := Lib.hid (cards_length hs)
  have HR := Lib.hid hr
  have HOK := Lib.hid hok
  clear hr hok
  go_enter Try.func67, Try.ntmps67
  go_wp2_with fail
  refine (steps_any _ _ hs i j _ ra HOK.out hij hj hl).mono ?_; rintro e w2 ⟨G, cg, rfl, hown, hb2⟩
  go_wp2
  go_ret
  exact ⟨ret_bool (by rw [HR.out, HCL.out]; exact beq_zero_dec _), bs T0 hb2⟩

/-- Behind k cards. -/
def FiR (L : List (List Int)) (a b : Int) (s : ByteArray) (w wr : World) (u v q : Value) : Prop := ∃ k : Nat, k ≤ L.length ∧ q = .int .i64 k ∧ u = .int .i64 (cntP (lowP s a b) L k) ∧ v = .int .i64 (cntP (eqlP s a b) L k) ∧ Below w.heap.size w wr

end Go.Proofs.Yteeaeomkpecflaa
