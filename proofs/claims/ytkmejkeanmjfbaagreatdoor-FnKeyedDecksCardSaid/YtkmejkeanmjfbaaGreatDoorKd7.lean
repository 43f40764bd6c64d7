/- Regions that draw their order, whose callees leave old memory alone and hand back one value: one walk in the order of the text. No program in sight. -/
import Derived.Test.YtkmejkeanmjfbaaGreatDoorKd1
import Derived.Deep.QuietTactic
import Derived.BigQuiet
/-! ### Later -/
namespace Go.Proofs.YtkmejkeanmjfbaaGreatDoor
open Go.RowKit

/-- A world in which all that was there is as it was. -/
def Later (w : World) : Type := { w' : World // Below w.heap.size w w' }
def Later.val {w : World} (x : Later w) : World := x.1
theorem Later.below {w : World} (x : Later w) : Below w.heap.size w x.val := x.2
instance (w : World) : Nonempty (Later w) := ⟨⟨w, Below.refl _ _⟩⟩
theorem lat_cell {w : World} (x : Later w) {b o : Nat} {v : Value} (h : w.cell? ⟨b, o, none⟩ = some v) : x.val.cell? ⟨b, o, none⟩ = some v := cell_later x.below h
theorem lat_rd {w : World} (x : Later w) {size n : Nat} {A : Option Addr} {xs : List Value} (h : Rd w w.heap.size size A n xs) : Rd x.val x.val.heap.size size A n xs := h.up x.below

variable {P : Program}
theorem wp_region_later {id : Nat} {Q : Exit → Act → World → Prop} {a : Act} {w : World} {l : List Oper} (hm : P.follows .mixedOrders = true) (hB : Region.lexB .any l.toArray = true)
    (h : wpQuiet P l.toArray (fun w' => ∃ x : Later w, w' = x.val) (fun a' => ∀ w', Below w.heap.size w w' → Q .normal a' w') l a) : (Code.region id l.toArray true).wp P Q a w := by
  refine wp_region_quiet (C := fun w' => ∃ x : Later w, w' = x.val) hm hB ⟨⟨_, (Below.refl w.heap.size w).drew⟩, rfl⟩ ?_
  have hQ : (fun a' => ∀ w', (∃ x : Later w, w' = x.val) → Q .normal a' w') = (fun a' => ∀ w', Below w.heap.size w w' → Q .normal a' w') := by
    funext a'
    apply propext
    constructor
    · intro h w' hb
      exact h w' ⟨⟨w', hb⟩, rfl⟩
    · rintro h w' ⟨x, rfl⟩
      exact h _ x.below
  rw [hQ]
  simpa using h
/-- A callee that leaves old memory alone. -/
theorem lat_call {f : FuncId} {args : Array Value} {w : World} {x : Later w} {v : Value} (h : Calls P f args x.val fun e w' => e = .returned v ∧ Below x.val.heap.size x.val w') :
    Calls P f args x.val fun e w'' => e = .returned v ∧ ∃ y : Later w, w'' = y.val :=
  h.mono fun _ w' ⟨he, hb⟩ => ⟨he, ⟨w', bs x.below hb⟩, rfl⟩
theorem lat_pure {f : FuncId} {args : Array Value} {w : World} {x : Later w} {v : Value} (h : Calls P f args x.val fun e w' => e = .returned v ∧ x.val = w') :
    Calls P f args x.val fun e w'' => e = .returned v ∧ ∃ y : Later w, w'' = y.val :=
  h.mono fun _ _ ⟨he, hb⟩ => ⟨he, x, hb.symm⟩
theorem beq_t {a b : Int} (h : a = b) : (a == b) = true := beq_iff_eq.2 h
theorem beq_f {a b : Int} (h : ¬ a = b) : (a == b) = false := beq_eq_false_iff_ne.2 h
theorem bne_t {a b : Int} (h : ¬ a = b) : (a != b) = true := bne_iff_ne.2 h
theorem bne_f {a b : Int} (h : a = b) : (a != b) = false := by subst h; simp
end Go.Proofs.YtkmejkeanmjfbaaGreatDoor
