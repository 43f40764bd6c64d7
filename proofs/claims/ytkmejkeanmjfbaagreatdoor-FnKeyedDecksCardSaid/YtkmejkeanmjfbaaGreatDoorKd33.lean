/- The draws of the law on shifted cards. What a statement 'var x Card = f(..)' leaves, whichever order was drawn: the variable's block, and the card's row. No program in sight. -/
import Derived.Test.YtkmejkeanmjfbaaGreatDoorKd25
import Derived.Test.YtkmejkeanmjfbaaGreatDoorKd15
import Derived.Test.YtkmejkeanmjfbaaGreatDoorKd5
import Derived.IntWalk
import Derived.Test.YtkmejkeanmjfbaaGreatDoorKd6
/-! ### ShDraw -/
namespace Go.Proofs.YtkmejkeanmjfbaaGreatDoor
open Go.RowKit

/-- What a draw of a card and a number hands back. -/
def CardIP (w : World) (e : Ending) (w' : World) : Prop := ∃ B n d xs z, e = .returned (.tuple #[.agg #[.slice B n d], .int .i64 z]) ∧ List.length xs = n ∧ n ≤ 40 ∧ Ob w' w.heap.size w'.heap.size 2 1 (.slice B n d) n (ints xs) ∧ Below w.heap.size w w'
end Go.Proofs.YtkmejkeanmjfbaaGreatDoor

/-! ### BoxEnd -/
namespace Go.Proofs.YtkmejkeanmjfbaaGreatDoor
open Go.RowKit

/-- A new variable for a card. -/
def BoxAt (w : World) (p : Nat) : Prop := w.cell? ⟨p, 0, none⟩ = some (.slice none 0 0) ∧ w.frozen? ⟨p, 0, none⟩ = false
theorem BoxAt.new {w : World} {e : TypeId} : BoxAt (w.alloc (.cells #[.slice none 0 0] e)) w.heap.size := ⟨cell_new rfl rfl, froz_new rfl⟩
theorem BoxAt.later {w w' : World} {p : Nat} (h : BoxAt w p) (hb : Below w.heap.size w w') : BoxAt w' p := ⟨cell_later hb h.1, froz_later hb h.2 (World.block_lt_of_cell? _ _ h.1)⟩
theorem BoxAt.lt {w : World} {p : Nat} (h : BoxAt w p) : p < w.heap.size := World.block_lt_of_cell? _ _ h.1
structure BoxEnd (eC : TypeId) (wb wx : World) (s : Value) (xs : List Int) (p : Nat) (A : Option Addr) (c lo hi : Nat) : Prop where
  ptr : s = .pointer (some ⟨p, 0, none⟩)
  cell : wx.cell? ⟨p, 0, none⟩ = some (.slice A xs.length c)
  ob : Ob wx lo hi eC 1 (.slice A xs.length c) xs.length (ints xs)
  far : p < lo ∨ hi ≤ p
  lo : wb.heap.size ≤ lo
  hi : hi ≤ wx.heap.size
  p0 : wb.heap.size ≤ p
  p1 : p < wx.heap.size
  below : Below wb.heap.size wb wx
def BoxLeft (eC : TypeId) (wb wx : World) (s : Value) (xs : List Int) : Prop := ∃ p A c lo hi, BoxEnd eC wb wx s xs p A c lo hi
theorem box_set {eC : TypeId} {wb wF : World} {p lo : Nat} {A : Option Addr} {c : Nat} {xs : List Int} {u : Value} (hE : Below wb.heap.size wb wF) (ob : Ob wF lo wF.heap.size eC 1 (.slice A xs.length c) xs.length (ints xs)) (hlo : wb.heap.size ≤ lo) (hp : wb.heap.size ≤ p) (hpl : p < lo) (k : wF.cell? ⟨p, 0, none⟩ = some u) :
    BoxLeft eC wb (wF.setCell ⟨p, 0, none⟩ (.slice A xs.length c)) (.pointer (some ⟨p, 0, none⟩)) xs :=
  ⟨p, A, c, lo, wF.heap.size, rfl, World.cell?_setCell_same _ _ _ k, ob.below _ _ _ hpl, .inl hpl, hlo, by simp [World.setCell], hp, by simpa [World.setCell] using World.block_lt_of_cell? _ _ k, bset hE _ _ _ hp⟩
theorem box_new {eC e : TypeId} {wb wF : World} {lo : Nat} {A : Option Addr} {c : Nat} {xs : List Int} (hE : Below wb.heap.size wb wF) (ob : Ob wF lo wF.heap.size eC 1 (.slice A xs.length c) xs.length (ints xs)) (hlo : wb.heap.size ≤ lo) :
    BoxLeft eC wb (wF.alloc (.cells #[.slice A xs.length c] e)) (.pointer (some ⟨wF.heap.size, 0, none⟩)) xs :=
  ⟨wF.heap.size, A, c, lo, wF.heap.size, rfl, cell_new rfl rfl, ob.alloc _, .inr (Nat.le_refl _), hlo, by simp, hE.size, by simp, ba hE _⟩
end Go.Proofs.YtkmejkeanmjfbaaGreatDoor
