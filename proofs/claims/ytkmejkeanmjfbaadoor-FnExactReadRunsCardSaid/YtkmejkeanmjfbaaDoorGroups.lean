/- Groups: GroupsOf, SequenceErrors; in the program and in the reference. -/
import Derived.Test.YtkmejkeanmjfbaaDoorKeysAll
import Derived.Test.YtkmejkeanmjfbaaDoorCollate
namespace Go.Proofs.YtkmejkeanmjfbaaDoor
open Go.RowKit

/-- Behind k cards. -/
def GrR (L : List (List Int)) (i j : Nat) (w wr : World) (o q : Value) : Prop := ∃ (k : Nat) (g cg : Nat), k ≤ L.length ∧ q = .int .i64 k ∧ o = .slice (some ⟨g, 0, none⟩) (grpL L (i : Int) (j : Int) k).length cg ∧
  wr.ownsRow w.heap.size 2 1 (.slice (some ⟨g, 0, none⟩) (grpL L (i : Int) (j : Int) k).length cg) (grpL L (i : Int) (j : Int) k).length (ints (grpL L (i : Int) (j : Int) k)) ∧ Below w.heap.size w wr

theorem ba_beq (s t : ByteArray) : (s == t) = decide (s = t) := by
  rw [Bool.eq_iff_iff]
  constructor
  · intro h
    have h2 : s.data == t.data := h
    have h3 := eq_of_beq h2
    cases s; cases t; simp_all
  · intro h
    have h := of_decide_eq_true h
    subst h
    show (s.data == s.data) = true
    exact beq_self_eq_true _
theorem ba_bne (s t : ByteArray) : (s != t) = !decide (s = t) := by
  show (!(s == t)) = _
  rw [ba_beq]
theorem ba_list_t {s t : ByteArray} (h : s = t) : (s.toList == t.toList) = true := by
  subst h
  exact beq_self_eq_true _
theorem ba_list_f {s t : ByteArray} (h : ¬ s = t) : (s.toList == t.toList) = false := by
  rw [beq_eq_false_iff_ne]
  intro e
  rw [Lib.toList_data, Lib.toList_data] at e
  exact h (by cases s; cases t; simp_all)
theorem bs_inj {s t : List UInt8} : (bs_ s = bs_ t) ↔ s = t := by
  constructor
  · intro h
    have := congrArg byt h
    simpa [byt_bs] using this
  · intro h
    rw [h]
theorem grp_text {L : List (List Int)} (hok : deckOk L = true) {i j : Nat} (hij : i < j) (hj : j ≤ deckW L) (hv : haveF L (i : Int) (j : Int) = true) {p q : Nat} (hp : p < L.length) (hq : q < L.length) :
    (textL (part L[p] (i : Int) (j : Int)) = textL (part L[q] (i : Int) (j : Int))) ↔ cmpC L (i : Int) (j : Int) q p = 0 := by
  rw [cmpC_at hq hp, ← text_eq (haveF_at hv hq) (haveF_at hv hp) (by rw [(part_deck hok hij hj hq).1, (part_deck hok hij hj hp).1])]
  exact ⟨fun h => h.symm, fun h => h.symm⟩
def grpRes (L : List (List Int)) (a b : Int) : List Int := if codeK L a b = 0 then grpL L a b L.length else []
theorem grpRes_0 {L : List (List Int)} {a b : Int} (h : codeK L a b = 0) : grpRes L a b = grpL L a b L.length := by unfold grpRes; rw [if_pos h]
theorem grpRes_1 {L : List (List Int)} {a b : Int} (h : codeK L a b ≠ 0) : grpRes L a b = [] := by unfold grpRes; rw [if_neg h]
theorem grpRes_len (L : List (List Int)) (a b : Int) : (grpRes L a b).length ≤ 40 := by
  by_cases h : codeK L a b = 0
  · rw [grpRes_0 h]
    have h1 := grpL_len L a b L.length
    have h2 := deckOk_len (codeK_zero h).1
    omega
  · rw [grpRes_1 h]; simp
def seqRes (L : List (List Int)) (a b : Int) : List Int := if codeK L a b = 0 then stepsL L a b L.length else []
theorem seqRes_0 {L : List (List Int)} {a b : Int} (h : codeK L a b = 0) : seqRes L a b = stepsL L a b L.length := by unfold seqRes; rw [if_pos h]
theorem seqRes_1 {L : List (List Int)} {a b : Int} (h : codeK L a b ≠ 0) : seqRes L a b = [] := by unfold seqRes; rw [if_neg h]
theorem seqRes_len (L : List (List Int)) (a b : Int) : (seqRes L a b).length ≤ 40 := by
  by_cases h : codeK L a b = 0
  · rw [seqRes_0 h]
    have h1 := stepsL_len L a b L.length
    have h2 := deckOk_len (codeK_zero h).1
    omega
  · rw [seqRes_1 h]; simp
theorem own_nilI (w : World) (B : Nat) {l : List Int} (h : l = []) : w.ownsRow B 2 1 (.slice none l.length 0) l.length (ints l) := by
  subst h
  exact World.ownsRow_nil _ _ _ _

end Go.Proofs.YtkmejkeanmjfbaaDoor
