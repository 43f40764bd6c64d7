/- What the listed variables of the library hold, out of the row's list; a world that lays them. -/
import Derived.Test.YtkmejkeanmjfbaaDoorReadDec
import Derived.Test.YtkmejkeanmjfbaaDoorLawBase
import Derived.Test.YtkmejkeanmjfbaaDoorCards
import Derived.LaidMore
import Derived.Lay
import Derived.SevenTiedAt
import Derived.OpenShut
import Derived.Stop.Joined
import Derived.Stop.LaidErr
import Derived.SizedLaws
namespace Go.Proofs.YtkmejkeanmjfbaaDoor
open Go.RowKit Go.ChangeShapes Go.WideShapes Go.ChangeAt

/-- The wrap of a row that lists variables, with the world's shape kept. -/
theorem returns_and_shaped {H : Type} {enc : TypeId × Value → H} {a : Assume} {C : Checked} {os : Os} {f : FuncId} {fn : Func} {s : ChangeSpec} {conds : List PathCond} {apart fresh handsOn again : Bool} {X : World → Array Value → Prop}
    (hX : ∀ (w w' : World) (args : Array Value), w.heap = w'.heap → X w args → X w' args)
    (own : ownKnob C.prog.godebug = none) (started : os.Started) (noInit : C.prog.inits.idxOf? f = none) (hfn : C.prog.funcs[f]? = some fn)
    (witness : ∃ (w : World) (tape : Tape) (i : Input), w.os = os ∧ (w.forCall tape i).Shaped C.prog ∧ i.vars = [] ∧ Input.okWide C.prog (w.forCall tape i) .any w.heap.size f i ∧
      ((s.pre enc C.prog fn conds apart (w.forCall tape i).memory i.args ∧ X (w.forCall tape i).memory i.args) ∧ sizedMet enc C.prog fn (OpenSpec.ofChange s) apart (w.forCall tape i).memory i.args) ∧ a.holds C.prog (lone (Frame.enter C.prog f i.args .normal) [] (w.forCall tape i)))
    (contract : ∀ (W : World) (base : Nat) (args : Array Value) (ds gs : List (DataW H)) (before : List MemPlace),
      (∀ (j : Nat) t v, fn.params[j]? = some t → args[j]? = some v → Value.okWide C.prog W .any base t v) →
      DataW.Whole enc C.prog fn.params.toList s.vars apart W args.toList ds gs before → X W args → W.ShapedOpen C.prog →
      Calls C.prog f args W fun e W' => ∃ v, e = .returned v ∧ s.post enc C.prog fn apart fresh handsOn again W args v W') :
    ReturnsInHanded a C os f .any (fun w args => (s.pre enc C.prog fn conds apart w args ∧ X w args) ∧ sizedMet enc C.prog fn (OpenSpec.ofChange s) apart w args) (s.post enc C.prog fn apart fresh handsOn again) := by
  refine returnsInHanded_of_calls own started noInit witness ?_
  intro w tape i _ hsh _ hok hpre _
  obtain ⟨_, _, _, fn', hfn', _, _, _, _, hval⟩ := hok
  have e : fn' = fn := Option.some.inj (hfn'.symm.trans hfn)
  subst e
  obtain ⟨⟨⟨ds, gs, before, hw, _⟩, hx⟩, _⟩ := hpre
  have hw' := DataW.Whole.of_heap (w' := w.forCall tape i) (by rfl) hw
  refine (contract (w.forCall tape i) w.heap.size i.args ds gs before hval hw' (hX _ _ _ (by rfl) hx) hsh).mono fun e W' ⟨v, he, hp⟩ => ?_
  subst he
  exact ChangeSpec.post_blind hp

def laid7 : List (String × DataW Unit) := [("math/bits.deBruijn32tab", Rows.laid_math_bits_deBruijn32tab), ("math/bits.deBruijn64tab", Rows.laid_math_bits_deBruijn64tab), ("internal/strconv.uint64pow10", Rows.laid_internal_strconv_uint64pow10), ("unicode/utf8.acceptRanges", Rows.laid_unicode_utf8_acceptRanges), ("strconv.ErrRange", Rows.laid_strconv_ErrRange), ("strconv.ErrSyntax", Rows.laid_strconv_ErrSyntax), ("unicode/utf8.first", Rows.laid_unicode_utf8_first)]
theorem g7Pow : Tryd.prog.globalNamed "internal/strconv.uint64pow10" = some 5 := by kernel_rfl
theorem t7Pow : (Tryd.prog.globals[5]?).map (·.type) = some 99 := by kernel_rfl
theorem c7Pow : Tryd.prog.cellsOf 99 = 20 := by kernel_rfl
theorem c7U64 : Tryd.prog.cellsOf 62 = 1 := by kernel_rfl
theorem d7Pow : (Rows.laid_internal_strconv_uint64pow10 : DataW Unit) = Lib.tabData .u64 Lib.pow10Tab := by rfl
theorem gES : Tryd.prog.globalNamed "strconv.ErrSyntax" = some 1 := by kernel_rfl
theorem tES : (Tryd.prog.globals[1]?).map (·.type) = some 38 := by kernel_rfl
theorem gER : Tryd.prog.globalNamed "strconv.ErrRange" = some 2 := by kernel_rfl
theorem tER : (Tryd.prog.globals[2]?).map (·.type) = some 38 := by kernel_rfl
theorem cEStr : Tryd.prog.cellsOf 97 = 1 := by kernel_rfl
theorem cStr : Tryd.prog.cellsOf 9 = 1 := by kernel_rfl
theorem starE : "*" ++ "errors.errorString" = "*errors.errorString" := by decide
theorem rowE (u : TypeId) (h : Tryd.prog.typeName? 3 u = some "*errors.errorString") : u = 95 :=
  typeName_ptr_named (nm := "errors.errorString") (by rw [starE]; kernel_rfl) (by kernel_rfl) (by decide) u (by rw [starE]; exact h)
theorem env_of {W : World} (h0 : laidMetH Tryd.prog laid7 W) (hsh : W.ShapedOpen Tryd.prog) : EnvOk W := by
  rw [MakeChecks.laidMetH_plain _ _ _ (by kernel_rfl)] at h0
  have h2 : laidMet Tryd.prog (laid7.drop 2) W := h0.tail.tail
  obtain ⟨a1, s1, hv1, _⟩ := laid_sentinel (show laidMet Tryd.prog (("strconv.ErrRange", Rows.laid_strconv_ErrRange) :: laid7.drop 5) W from h2.tail.tail) gER tER Tryd.underlying38 rowE Tryd.underlying95 Tryd.underlying97 rfl rfl Tryd.underlying9 cEStr cStr
  obtain ⟨a2, s2, hv2, _⟩ := laid_sentinel (show laidMet Tryd.prog (("strconv.ErrSyntax", Rows.laid_strconv_ErrSyntax) :: laid7.drop 6) W from h2.tail.tail.tail) gES tES Tryd.underlying38 rowE Tryd.underlying95 Tryd.underlying97 rfl rfl Tryd.underlying9 cEStr cStr
  refine ⟨?_, ⟨_, _, hv2⟩, ⟨_, _, hv1⟩, Tryd.laysM146.s1_3 W hsh⟩
  obtain ⟨ps, ⟨g2, t2, cs, fuel, p, q, hg2, ht2, hv, hd2, _, _⟩, _, _⟩ := h2
  obtain rfl := Option.some.inj (g7Pow.symm.trans hg2)
  obtain rfl := Option.some.inj (t7Pow.symm.trans ht2)
  rw [d7Pow] at hd2
  unfold Lib.TabIs
  rw [hv, ← Lib.cells_of_tab Tryd.underlying99 Tryd.underlying62 c7U64 c7Pow hd2]
end Go.Proofs.YtkmejkeanmjfbaaDoor
