/- The cards of pockets behind each other; in the program and in the reference. -/
import Derived.Test.YtkmejkeanmjfbaaDoorDecks
import Derived.Test.YtkmejkeanmjfbaaDoorDecks2
namespace Go.Proofs.YtkmejkeanmjfbaaDoor
open Go.RowKit

/-- The pockets in the order in which they are gathered. -/
def ordN (m : Int) : List Nat := if m = 2 then [12, 11, 10, 0, 1] else [12, 0, 1, 2, 3, 4, 5, 6, 7, 8, 9]
def ordI (m : Int) : List Int := (ordN m).map fun (k : Nat) => (k : Int)
theorem ordI_length (m : Int) : (ordI m).length = (ordN m).length := by simp [ordI]
theorem ordN_len (m : Int) : (ordN m).length ≤ 11 := by unfold ordN; split <;> simp
theorem ordN_lt (m : Int) (k : Nat) (h : k < (ordN m).length) : (ordN m)[k] < 13 := by
  have : ∀ j ∈ ordN m, j < 13 := by
    unfold ordN
    split <;> decide
  exact this _ (List.getElem_mem h)
theorem ordI_at (m : Int) (k : Nat) (h : k < (ordN m).length) : (ints (ordI m))[k]? = some (.int .i64 ((ordN m)[k] : Int)) := by simp [ints, ordI, h]
def gathTo (P : List (List (List Int))) (m : Int) (k : Nat) : List (List Int) := ((ordN m).take k).flatMap fun j => P.getD j []
def gathL (P : List (List (List Int))) (m : Int) : List (List Int) := (ordN m).flatMap fun j => P.getD j []
theorem gathTo_zero (P : List (List (List Int))) (m : Int) : gathTo P m 0 = [] := by simp [gathTo]
theorem gathTo_succ (P : List (List (List Int))) (m : Int) (k : Nat) (h : k < (ordN m).length) : gathTo P m (k + 1) = gathTo P m k ++ P.getD (ordN m)[k] [] := by
  unfold gathTo
  rw [List.take_succ_eq_append_getElem h, List.flatMap_append]
  simp
theorem gathTo_all (P : List (List (List Int))) (m : Int) : gathTo P m (ordN m).length = gathL P m := by simp [gathTo, gathL]
theorem decks_getD (ds : List Dk) (j : Nat) (h : j < ds.length) : (decks ds).getD j [] = cards ds[j].hs := by simp [decks, h]

/-- A deck of the call's own, and behind it another one. -/
theorem ObD.join {w w' : World} {lo hi : Nat} {eD eC : TypeId} {D : Option Addr} {c : Nat} {hs : List Hd} (h : ObD w lo hi eD eC D c hs) (hne : eC ≠ eD) {l1 h1 : Nat} {B : Option Addr} {d : Nat} {gs : List Hd} (k : ObD w l1 h1 eD eC B d gs) (hl : hi ≤ l1) (hll : lo ≤ l1) {D' : Option Addr} {c' : Nat}
    (hrow : w'.ownsRow lo eD 1 (.slice D' (hs.length + gs.length) c') (hs.length + gs.length) (heads hs ++ heads gs)) (hg : w.grownBy w' (Value.slice D hs.length c).ownBlock) (hhi : hi ≤ w.heap.size) (hh1 : h1 ≤ w.heap.size) :
    ObD w' lo w'.heap.size eD eC D' c' (hs ++ gs) := by
  have hz := hg.size
  refine ⟨?_, ?_, ?_⟩
  · rw [heads_append, List.length_append]
    exact Ob.of hrow
  · intro y hy
    rcases List.mem_append.1 hy with hy | hy
    · exact ((h.card y hy).kept hg (own_ne (h.card y hy).1 h.row.1 hne)).mono (Nat.le_refl _) (by omega)
    · exact ((k.card y hy).kept hg (own_ne (k.card y hy).1 h.row.1 hne)).mono hll (by omega)
  · refine List.pairwise_append.2 ⟨h.apart, k.apart, ?_⟩
    intro x hx y hy g e1 e2
    have h2 := ob_form (h.card x hx) e1
    have h3 := ob_form (k.card y hy) e2
    simp only at h2 h3
    omega

end Go.Proofs.YtkmejkeanmjfbaaDoor
