/- Fields of cards: their characters, their texts, comparing; in the program and in the reference. The texts of a field of all cards, the steps, the groups; in the program and in the reference. Steps and groups; IsSorted, FirstStep; in the program and in the reference. -/
import Derived.Test.YtkmejkeanmjfbaaDoorRankAll
import Derived.Laws.IdiomStrings
import Derived.IntWalk
/-! ### Fields of cards: their characters, their texts, comparing; in the program and in the reference. -/
namespace Go.Proofs.YtkmejkeanmjfbaaDoor
open Go.RowKit

theorem info_u8K : (Tryd.prog.info? 5).map (fun i => (i.zero, i.size, i.bytes)) = some (some (.int .u8 0), 1, 1) := by kernel_rfl
theorem info_strK : (Tryd.prog.info? 9).map (fun i => (i.zero, i.size, i.bytes)) = some (some (.string ⟨#[]⟩), 1, 16) := by kernel_rfl

theorem haveF_any (L : List (List Int)) (a b : Int) : (!(L.any fun x => !legalL (part x a b))) = haveF L a b := by
  rw [any_not_allI]
  simp [haveF]
theorem codeK_z {L : List (List Int)} {a b : Int} {q : Bool} (h : deckOk L = true) (h2 : fieldOk a b (deckW L : Int) = true) (h3 : haveF L a b = q) : codeK L a b = if q = true then 0 else 8 := by unfold codeK; rw [if_pos h, if_pos h2, h3]
/-! ### the reference's texts -/
def byts (s : List UInt8) : List Value := s.map fun b => .int .u8 (b.toNat : Int)
theorem byts_length (s : List UInt8) : (byts s).length = s.length := by simp [byts]
theorem byts_get (s : List UInt8) (k : Nat) (h : k < s.length) : (byts s)[k]? = some (.int .u8 (s[k].toNat : Int)) := by simp [byts, h]
theorem byts_snoc (s : List UInt8) (b : UInt8) : byts (s ++ [b]) = byts s ++ [.int .u8 (b.toNat : Int)] := by simp [byts]
theorem textL_snoc (xs : List Int) (k : Nat) (h : k < xs.length) : textL (xs.take (k + 1)) = textL (xs.take k) ++ [charM xs[k]] := by
  unfold textL
  rw [List.take_succ_eq_append_getElem h, List.map_append]
  rfl
theorem conv_text {w : World} {base g n cap : Nat} {s : List UInt8} (ho : w.ownsRow base 5 1 (.slice (some ⟨g, 0, none⟩) n cap) n (byts s)) :
    (convert 27 9 (.slice (some ⟨g, 0, none⟩) n cap)).run Tryd.prog w = .ok (.string (bs_ s)) w := by
  have hn : n = s.length := by have := ho.1; rw [byts_length, Nat.mul_one] at this; exact this.symm
  subst hn
  refine run_convert_bytes_back w 27 9 5 ⟨g, 0, none⟩ cap s Tryd.underlying27 Tryd.underlying5 Tryd.underlying9 ?_
  intro j hj
  have h1 := own_cell ho j (by rw [byts_length]; exact hj)
  rw [Addr.add_lit, Nat.zero_add, h1]
  simp [byts]
def keyT (xs : List Int) : List UInt8 := if legalL xs = true then textL xs else []
theorem keyT_yes {xs : List Int} (h : legalL xs = true) : keyT xs = textL xs := by unfold keyT; rw [if_pos h]
theorem keyT_no {xs : List Int} (h : legalL xs = false) : keyT xs = [] := by unfold keyT; rw [if_neg (by simp [h])]
theorem ret_sb {s t : List UInt8} {p q : Bool} (h : s = t) (k : p = q) : Ending.returned (.tuple #[.string (bs_ s), .bool p]) = .returned (.tuple #[.string (bs_ t), .bool q]) := by rw [h, k]

end Go.Proofs.YtkmejkeanmjfbaaDoor

/-! ### The texts of a field of all cards, the steps, the groups; in the program and in the reference. -/
namespace Go.Proofs.YtkmejkeanmjfbaaDoor
open Go.RowKit

theorem part_deck {L : List (List Int)} (hok : deckOk L = true) {i j : Nat} (hij : i < j) (hj : j ≤ deckW L) {k : Nat} (hk : k < L.length) : (part L[k] (i : Int) (j : Int)).length = j - i ∧ j ≤ L[k].length := by
  have h1 := (deckOk_card hok hk).2
  have h2 : deckW L = wid0 L := by unfold deckW; rw [if_neg (by omega)]
  exact ⟨part_len hij (by omega), by omega⟩
theorem ret_kk {K : Option Addr} {n m ck : Nat} {a b : Int} (h : a = b) (k : n = m) : Ending.returned (.tuple #[.slice K n ck, .int .i64 a]) = .returned (.tuple #[.slice K m ck, .int .i64 b]) := by rw [h, k]

/-- Behind k cards. -/
def KyR (L : List (List Int)) (i j : Nat) (w wr : World) (o q : Value) : Prop := ∃ (k : Nat) (G : Option Addr) (cg : Nat), k ≤ L.length ∧ q = .int .i64 k ∧ o = .slice G k cg ∧ (L.take k).any (fun x => !legalL (part x (i : Int) (j : Int))) = false ∧
  wr.ownsRow w.heap.size 9 1 (.slice G k cg) k (strs (keysL (L.take k) (i : Int) (j : Int))) ∧ Below w.heap.size w wr

end Go.Proofs.YtkmejkeanmjfbaaDoor

/-! ### Steps and groups; IsSorted, FirstStep; in the program and in the reference. -/
namespace Go.Proofs.YtkmejkeanmjfbaaDoor
open Go.RowKit

theorem ret_bk {p q : Bool} {a b : Int} (h : p = q) (k : a = b) : Ending.returned (.tuple #[.bool p, .int .i64 a]) = .returned (.tuple #[.bool q, .int .i64 b]) := by rw [h, k]
theorem ret_ik {a b c d : Int} (h : a = b) (k : c = d) : Ending.returned (.tuple #[.int .i64 a, .int .i64 c]) = .returned (.tuple #[.int .i64 b, .int .i64 d]) := by rw [h, k]
theorem beq_zero_dec (n : Nat) : ((n : Int) == 0) = decide (n = 0) := by
  rw [Bool.eq_iff_iff]
  simp
theorem info_i64K : (Tryd.prog.info? 2).map (fun i => (i.zero, i.size, i.bytes)) = some (some (.int .i64 0), 1, 8) := by kernel_rfl
/-- Behind the cards before k. -/
def StR (L : List (List Int)) (i j : Nat) (w wr : World) (o q : Value) : Prop := ∃ (k : Nat) (g cg : Nat), 1 ≤ k ∧ k ≤ 41 ∧ q = .int .i64 k ∧ o = .slice (some ⟨g, 0, none⟩) (stepsL L (i : Int) (j : Int) (min k L.length)).length cg ∧
  wr.ownsRow w.heap.size 2 1 (.slice (some ⟨g, 0, none⟩) (stepsL L (i : Int) (j : Int) (min k L.length)).length cg) (stepsL L (i : Int) (j : Int) (min k L.length)).length (ints (stepsL L (i : Int) (j : Int) (min k L.length))) ∧ Below w.heap.size w wr

def srtRes (L : List (List Int)) (a b : Int) : Bool := if codeK L a b = 0 then decide ((stepsL L a b L.length).length = 0) else false
theorem srtRes_0 {L : List (List Int)} {a b : Int} (h : codeK L a b = 0) : srtRes L a b = decide ((stepsL L a b L.length).length = 0) := by unfold srtRes; rw [if_pos h]
theorem srtRes_1 {L : List (List Int)} {a b : Int} (h : codeK L a b ≠ 0) : srtRes L a b = false := by unfold srtRes; rw [if_neg h]
def fstRes (L : List (List Int)) (a b : Int) : Int := if codeK L a b = 0 then stepF L a b L.length else 0
theorem fstRes_0 {L : List (List Int)} {a b : Int} (h : codeK L a b = 0) : fstRes L a b = stepF L a b L.length := by unfold fstRes; rw [if_pos h]
theorem fstRes_1 {L : List (List Int)} {a b : Int} (h : codeK L a b ≠ 0) : fstRes L a b = 0 := by unfold fstRes; rw [if_neg h]

theorem head_cell {l : List Int} (h : 0 < l.length) : (ints l)[0]? = some (.int .i64 (l.headD (-1))) := by
  cases l with
  | nil => simp at h
  | cons a l => simp [ints]
end Go.Proofs.YtkmejkeanmjfbaaDoor
