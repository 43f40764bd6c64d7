/- Draws of cards that are near to other ones. -/
import Derived.Test.YtkmejkeanmjfbaaBent
import Derived.Deep.RegionHeld3
namespace Go.Proofs.Ytkmejkeanmjfbaa
open Go.RowKit

/-- Behind some damages. -/
def DmR (p K n b5 : Nat) (w wr : World) (B : Option Addr) (d : Nat) (q : Value) : Prop := ∃ (k : Nat) (ys : List Int), k ≤ 3 ∧ q = .int .i64 k ∧ ys.length = n ∧ Ob wr (w.heap.size + 1) b5 2 1 (.slice B n d) n (ints ys) ∧ wr.cell? ⟨b5, 0, none⟩ = some (.slice B n d) ∧
  wr.cell? ⟨w.heap.size, 0, none⟩ = some (.slice none 0 0) ∧ wr.frozen? ⟨w.heap.size, 0, none⟩ = false ∧ Chg p (p + 1) w wr ∧ SrcK wr p (K + 2 + 8 * (3 - k)) ∧ b5 < wr.heap.size

end Go.Proofs.Ytkmejkeanmjfbaa
