/- impl.ReadDecimal: the number with a decimal text, by the library's contracts. What all rows of this seat share. What the listed variables of the library hold, out of the row's list; a world that lays them. -/
import Derived.Test.YtkmejkeanmjfbaaGreatDoorKd21
import Derived.Lib.LaidTab
import Derived.Test.YtkmejkeanmjfbaaGreatDoorRows
import Derived.Test.YtkmejkeanmjfbaaGreatDoorKd1
import Derived.ProofKit
import Derived.Test.YtkmejkeanmjfbaaGreatDoorCards
import Derived.LaidMore
import Derived.Lay
import Derived.SevenTiedAt
import Derived.OpenShut
import Derived.Stop.Joined
import Derived.Stop.LaidErr
import Derived.SizedLaws
/-! ### ReadDec -/
namespace Go.Proofs.YtkmejkeanmjfbaaGreatDoor
open Go.RowKit

theorem var_later {P : Program} {n : String} {x : Array Value} {w w' : World} (h : w.var? P n = some x) (hb : Below w.heap.size w w') : w'.var? P n = some x := by
  unfold World.var? at h ⊢
  cases hg : P.globalNamed n with
  | none => rw [hg] at h; cases h
  | some g =>
    rw [hg] at h
    simp only [Option.bind_some] at h ⊢
    have hlt : g < w.heap.size := by
      rcases Nat.lt_or_ge g w.heap.size with e | e
      · exact e
      · rw [Array.getElem?_eq_none e] at h; cases h
    rw [hb.block g hlt]
    exact h
/-- What the library's variables hold. -/
structure EnvOk (w : World) : Prop where
  tab : Lib.TabIs Tryz.prog w "internal/strconv.uint64pow10" .u64 Lib.pow10Tab
  syn : ∃ tp p, w.var? Tryz.prog "strconv.ErrSyntax" = some #[.iface tp p]
  rng : ∃ tp p, w.var? Tryz.prog "strconv.ErrRange" = some #[.iface tp p]
  mx : ∃ m, w.cell? ⟨0, 0, none⟩ = some (.int .i64 m)
theorem EnvOk.bs {w w' : World} (h : EnvOk w) (hb : Below w.heap.size w w') : EnvOk w' :=
  ⟨var_later h.tab hb, let ⟨tp, p, e⟩ := h.syn; ⟨tp, p, var_later e hb⟩, let ⟨tp, p, e⟩ := h.rng; ⟨tp, p, var_later e hb⟩, let ⟨m, e⟩ := h.mx; ⟨m, cell_later hb e⟩⟩
theorem trim_len (l : List UInt8) : (Lib.trimPrefix l [45]).length ≤ l.length := by
  unfold Lib.trimPrefix
  split
  · simp
  · exact Nat.le_refl _
theorem ParseInt_any (s : ByteArray) (w : World) (hl : s.size ≤ 1048576) (he : EnvOk w) :
    Calls Tryz.prog 94 #[.string s, .int .i64 10, .int .i64 64] w fun e w' => ((∃ v, Lib.parseIntB 64 (byt s) = .ok v ∧ -9223372036854775808 ≤ v ∧ v ≤ 9223372036854775807 ∧ e = .returned (.tuple #[.int .i64 v, .nilIface])) ∨ ((∀ v, Lib.parseIntB 64 (byt s) ≠ .ok v) ∧ ∃ z t N, e = .returned (.tuple #[.int .i64 z, .iface t (.pointer (some ⟨N, 0, none⟩))]))) ∧ Below w.heap.size w w' := by
  rcases h : Lib.parseIntB 64 (byt s) with v | _ | _
  · have hb := Lib.parseIntB_bounds h
    refine (Tryz.strconv_ParseInt_10_at64_ok s (by omega) v h w).mono ?_
    rintro e w1 ⟨rfl, hw⟩
    refine ⟨.inl ⟨v, rfl, by omega, by omega, rfl⟩, ?_⟩
    rcases hw with rfl | ⟨t, rfl⟩
    · exact b0 _
    · exact Lib.bytesWorld_below _ _ _
  · obtain ⟨tp, p, hv⟩ := he.syn
    refine (show Calls Tryz.prog 94 #[.string s, .int .i64 10, .int .i64 64] w _ from Any.strconv_ParseInt_10_at64_syntax_var Tryz.laysC174 s (by omega) h tp p w hv).mono ?_
    rintro e w1 ⟨N, rfl, _, _, hb⟩
    exact ⟨.inr ⟨fun v e => (by cases e), _, _, N, rfl⟩, hb⟩
  · obtain ⟨tp, p, hv⟩ := he.rng
    refine (Tryz.strconv_ParseInt_10_at64_range_var s (by omega) h tp p w hv).mono ?_
    rintro e w1 ⟨N, rfl, _, _, hb⟩
    exact ⟨.inr ⟨fun v e => (by cases e), _, _, N, rfl⟩, hb⟩

set_option maxRecDepth 20000 in
set_option maxHeartbeats 4000000 in
theorem ReadDecimal_any (s : ByteArray) (w : World) (hl : s.size ≤ 1048576) (he : EnvOk w) :
    Calls Tryz.prog 56 #[.string s] w fun e w' => NumP (byt s) e ∧ Below w.heap.size w w' := by
  have HE := Lib.hid he
  go_enter Tryz.func56, Tryz.ntmps56
  go_wp2_with fail
  refine (ParseInt_any s w hl he).mono ?_
  rintro e w1 ⟨⟨v, hv, v0, v1, rfl⟩ | ⟨hv, z, t, N, rfl⟩, hb1⟩
  · have HDC := Lib.hid (Decimal_any v w1 v0 v1 (HE.out.bs hb1).tab)
    go_wp2_with fail
    refine HDC.out.mono ?_
    rintro e w2 ⟨rfl, hb2⟩
    have HB := Lib.hid (Below.trans hb1 (hb2.mono hb1.size))
    clear hb1 hb2
    by_cases hs : bs_ (Lib.itoa v) = s
    · have e4 := ba_list_t hs
      have HS := Lib.hid (show byt s = Lib.itoa v by rw [← hs, byt_bs])
      clear hs
      obtain ⟨T, hT⟩ : ∃ T : ByteArray, T = ⟨(Lib.trimPrefix s.data.toList (⟨#[45]⟩ : ByteArray).data.toList).toArray⟩ := ⟨_, rfl⟩
      have hTL : T.size ≤ s.size := by
        rw [hT]
        have := trim_len (byt s)
        rw [byt_size] at this
        exact this
      have HTP := Lib.hid (fun W => Tryz.strings_TrimPrefix s ⟨#[45]⟩ W)
      rw [← hT] at HTP
      clear hT
      by_cases h18 : T.size ≤ 18
      · have i1 : ¬ (18 : Int) < (T.size : Int) := by omega
        go_wp2_with fail
        refine (HTP.out _).mono ?_
        rintro e w3 ⟨rfl, rfl⟩
        go_wp2
        go_ret2
        exact ⟨.inl ⟨v, rfl, HS.out, v0, v1⟩, HB.out⟩
      · have i1 : (18 : Int) < (T.size : Int) := by omega
        have HN := Lib.hid (show NoT (byt s) from noT_len (by rw [byt_size]; omega))
        go_wp2_with fail
        refine (HTP.out _).mono ?_
        rintro e w3 ⟨rfl, rfl⟩
        go_wp2
        go_ret2
        exact ⟨.inr ⟨rfl, HN.out⟩, HB.out⟩
    · have e4 := ba_list_f hs
      have HN := Lib.hid (show NoT (byt s) from noT_parse fun x hx e => hs (by rw [hv] at hx; injection hx with hx; rw [hx, e, bs_byt]))
      clear hs
      go_wp2
      go_ret2
      exact ⟨.inr ⟨rfl, HN.out⟩, HB.out⟩
  · have HN := Lib.hid (show NoT (byt s) from noT_parse_err hv)
    clear hv
    go_wp2
    go_ret2
    exact ⟨.inr ⟨rfl, HN.out⟩, hb1⟩
end Go.Proofs.YtkmejkeanmjfbaaGreatDoor

/-! ### LawBase -/
namespace Go.Proofs.YtkmejkeanmjfbaaGreatDoor
open Go.RowKit
theorem lawOwn : ownKnob Tryz.prog.godebug = none := by kernel_rfl
theorem lawLaid : laidOutB Tryz.prog = true := by kernel_rfl
end Go.Proofs.YtkmejkeanmjfbaaGreatDoor

/-! ### LaidEnv -/
namespace Go.Proofs.YtkmejkeanmjfbaaGreatDoor
open Go.RowKit Go.ChangeShapes Go.WideShapes Go.ChangeAt

/-- The wrap of a row that lists variables, with the world's shape kept. -/
theorem returns_and_shaped {H : Type} {enc : TypeId × Value → H} {a : Assume} {C : Checked} {os : Os} {f : FuncId} {fn : Func} {s : ChangeSpec} {conds : List PathCond} {apart fresh handsOn again : Bool} {X : World → Array Value → Prop}
    (hX : ∀ (w w' : World) (args : Array Value), w.heap = w'.heap → X w args → X w' args)
    (own : ownKnob C.prog.godebug = none) (started : os.Started) (noInit : C.prog.inits.idxOf? f = none) (hfn : C.prog.funcs[f]? = some fn)
    (witness : ∃ (w : World) (tape : Tape) (i : Input), w.os = os ∧ (w.forCall tape i).Shaped C.prog ∧ i.vars = [] ∧ Input.okWide C.prog (w.forCall tape i) .any w.heap.size f i ∧
      ((s.pre enc C.prog fn conds apart (w.forCall tape i).memory i.args ∧ X (w.forCall tape i).memory i.args) ∧ sizedMet enc C.prog fn (OpenSpec.ofChange s) apart (w.forCall tape i).memory i.args) ∧ a.holds C.prog (lone (Frame.enter C.prog f i.args .normal) [] (w.forCall tape i)))
    (contract : ∀ (W : World) (base : Nat) (args : Array Value) (ds gs : List (DataW H)) (before : List MemPlace),
      (∀ (j : Nat) t v, fn.params[j]? = some t → args[j]? = some v → Value.okWide C.prog W .any base t v) →
      DataW.Whole enc C.prog fn.params.toList s.vars apart W args.toList ds gs before → X W args → W.ShapedOpen C.prog →
      Calls C.prog f args W fun e W' => ∃ v, e = .returned v ∧ s.post enc C.prog fn apart fresh handsOn again W args v W') :
    ReturnsInHanded a C os f .any (fun w args => (s.pre enc C.prog fn conds apart w args ∧ X w args) ∧ sizedMet enc C.prog fn (OpenSpec.ofChange s) apart w args) (s.post enc C.prog fn apart fresh handsOn again) := by
  refine returnsInHanded_of_calls own started noInit witness ?_
  intro w tape i _ hsh _ hok hpre _
  obtain ⟨_, _, _, fn', hfn', _, _, _, _, hval⟩ := hok
  have e : fn' = fn := Option.some.inj (hfn'.symm.trans hfn)
  subst e
  obtain ⟨⟨⟨ds, gs, before, hw, _⟩, hx⟩, _⟩ := hpre
  have hw' := DataW.Whole.of_heap (w' := w.forCall tape i) (by rfl) hw
  refine (contract (w.forCall tape i) w.heap.size i.args ds gs before hval hw' (hX _ _ _ (by rfl) hx) hsh).mono fun e W' ⟨v, he, hp⟩ => ?_
  subst he
  exact ChangeSpec.post_blind hp

def laid7 : List (String × DataW Unit) := [("math/bits.deBruijn32tab", Rows.laid_math_bits_deBruijn32tab), ("math/bits.deBruijn64tab", Rows.laid_math_bits_deBruijn64tab), ("internal/strconv.uint64pow10", Rows.laid_internal_strconv_uint64pow10), ("unicode/utf8.acceptRanges", Rows.laid_unicode_utf8_acceptRanges), ("strconv.ErrRange", Rows.laid_strconv_ErrRange), ("strconv.ErrSyntax", Rows.laid_strconv_ErrSyntax), ("unicode/utf8.first", Rows.laid_unicode_utf8_first)]
theorem g7Pow : Tryz.prog.globalNamed "internal/strconv.uint64pow10" = some 1 := by kernel_rfl
theorem t7Pow : (Tryz.prog.globals[1]?).map (·.type) = some 150 := by kernel_rfl
theorem c7Pow : Tryz.prog.cellsOf 150 = 20 := by kernel_rfl
theorem c7U64 : Tryz.prog.cellsOf 87 = 1 := by kernel_rfl
theorem d7Pow : (Rows.laid_internal_strconv_uint64pow10 : DataW Unit) = Lib.tabData .u64 Lib.pow10Tab := by rfl
theorem gES : Tryz.prog.globalNamed "strconv.ErrSyntax" = some 2 := by kernel_rfl
theorem tES : (Tryz.prog.globals[2]?).map (·.type) = some 106 := by kernel_rfl
theorem gER : Tryz.prog.globalNamed "strconv.ErrRange" = some 3 := by kernel_rfl
theorem tER : (Tryz.prog.globals[3]?).map (·.type) = some 106 := by kernel_rfl
theorem cEStr : Tryz.prog.cellsOf 166 = 1 := by kernel_rfl
theorem cStr : Tryz.prog.cellsOf 9 = 1 := by kernel_rfl
theorem starE : "*" ++ "errors.errorString" = "*errors.errorString" := by decide
theorem rowE (u : TypeId) (h : Tryz.prog.typeName? 3 u = some "*errors.errorString") : u = 164 :=
  typeName_ptr_named (nm := "errors.errorString") (by rw [starE]; kernel_rfl) (by kernel_rfl) (by decide) u (by rw [starE]; exact h)
theorem env_of {W : World} (h0 : laidMetH Tryz.prog laid7 W) (hsh : W.ShapedOpen Tryz.prog) : EnvOk W := by
  rw [MakeChecks.laidMetH_plain _ _ _ (by kernel_rfl)] at h0
  have h2 : laidMet Tryz.prog (laid7.drop 2) W := h0.tail.tail
  obtain ⟨a1, s1, hv1, _⟩ := laid_sentinel (show laidMet Tryz.prog (("strconv.ErrRange", Rows.laid_strconv_ErrRange) :: laid7.drop 5) W from h2.tail.tail) gER tER Tryz.underlying106 rowE Tryz.underlying164 Tryz.underlying166 rfl rfl Tryz.underlying9 cEStr cStr
  obtain ⟨a2, s2, hv2, _⟩ := laid_sentinel (show laidMet Tryz.prog (("strconv.ErrSyntax", Rows.laid_strconv_ErrSyntax) :: laid7.drop 6) W from h2.tail.tail.tail) gES tES Tryz.underlying106 rowE Tryz.underlying164 Tryz.underlying166 rfl rfl Tryz.underlying9 cEStr cStr
  refine ⟨?_, ⟨_, _, hv2⟩, ⟨_, _, hv1⟩, Tryz.laysM146.s1_3 W hsh⟩
  obtain ⟨ps, ⟨g2, t2, cs, fuel, p, q, hg2, ht2, hv, hd2, _, _⟩, _, _⟩ := h2
  obtain rfl := Option.some.inj (g7Pow.symm.trans hg2)
  obtain rfl := Option.some.inj (t7Pow.symm.trans ht2)
  rw [d7Pow] at hd2
  unfold Lib.TabIs
  rw [hv, ← Lib.cells_of_tab Tryz.underlying150 Tryz.underlying87 c7U64 c7Pow hd2]
end Go.Proofs.YtkmejkeanmjfbaaGreatDoor
