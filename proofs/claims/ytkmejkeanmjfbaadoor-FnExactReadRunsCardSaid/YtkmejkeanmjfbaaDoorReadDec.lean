/- impl.ReadDecimal: the number with a decimal text, by the library's contracts. -/
import Derived.Test.YtkmejkeanmjfbaaDoorRNumW
import Derived.Lib.LaidTab
namespace Go.Proofs.YtkmejkeanmjfbaaDoor
open Go.RowKit

theorem var_later {P : Program} {n : String} {x : Array Value} {w w' : World} (h : w.var? P n = some x) (hb : Below w.heap.size w w') : w'.var? P n = some x := by
  unfold World.var? at h ⊢
  cases hg : P.globalNamed n with
  | none => rw [hg] at h; cases h
  | some g =>
    rw [hg] at h
    simp only [Option.bind_some] at h ⊢
    have hlt : g < w.heap.size := by
      rcases Nat.lt_or_ge g w.heap.size with e | e
      · exact e
      · rw [Array.getElem?_eq_none e] at h; cases h
    rw [hb.block g hlt]
    exact h
/-- What the library's variables hold. -/
structure EnvOk (w : World) : Prop where
  tab : Lib.TabIs Tryd.prog w "internal/strconv.uint64pow10" .u64 Lib.pow10Tab
  syn : ∃ tp p, w.var? Tryd.prog "strconv.ErrSyntax" = some #[.iface tp p]
  rng : ∃ tp p, w.var? Tryd.prog "strconv.ErrRange" = some #[.iface tp p]
  mx : ∃ m, w.cell? ⟨0, 0, none⟩ = some (.int .i64 m)
theorem EnvOk.bs {w w' : World} (h : EnvOk w) (hb : Below w.heap.size w w') : EnvOk w' :=
  ⟨var_later h.tab hb, let ⟨tp, p, e⟩ := h.syn; ⟨tp, p, var_later e hb⟩, let ⟨tp, p, e⟩ := h.rng; ⟨tp, p, var_later e hb⟩, let ⟨m, e⟩ := h.mx; ⟨m, cell_later hb e⟩⟩
theorem trim_len (l : List UInt8) : (Lib.trimPrefix l [45]).length ≤ l.length := by
  unfold Lib.trimPrefix
  split
  · simp
  · exact Nat.le_refl _
theorem ParseInt_any (s : ByteArray) (w : World) (hl : s.size ≤ 1048576) (he : EnvOk w) :
    Calls Tryd.prog 19 #[.string s, .int .i64 10, .int .i64 64] w fun e w' => ((∃ v, Lib.parseIntB 64 (byt s) = .ok v ∧ -9223372036854775808 ≤ v ∧ v ≤ 9223372036854775807 ∧ e = .returned (.tuple #[.int .i64 v, .nilIface])) ∨ ((∀ v, Lib.parseIntB 64 (byt s) ≠ .ok v) ∧ ∃ z t N, e = .returned (.tuple #[.int .i64 z, .iface t (.pointer (some ⟨N, 0, none⟩))]))) ∧ Below w.heap.size w w' := by
  rcases h : Lib.parseIntB 64 (byt s) with v | _ | _
  · have hb := Lib.parseIntB_bounds h
    refine (Tryd.strconv_ParseInt_10_at64_ok s (by omega) v h w).mono ?_
    rintro e w1 ⟨rfl, hw⟩
    refine ⟨.inl ⟨v, rfl, by omega, by omega, rfl⟩, ?_⟩
    rcases hw with rfl | ⟨t, rfl⟩
    · exact b0 _
    · exact Lib.bytesWorld_below _ _ _
  · obtain ⟨tp, p, hv⟩ := he.syn
    refine (show Calls Tryd.prog 19 #[.string s, .int .i64 10, .int .i64 64] w _ from Any.strconv_ParseInt_10_at64_syntax_var Tryd.laysC174 s (by omega) h tp p w hv).mono ?_
    rintro e w1 ⟨N, rfl, _, _, hb⟩
    exact ⟨.inr ⟨fun v e => (by cases e), _, _, N, rfl⟩, hb⟩
  · obtain ⟨tp, p, hv⟩ := he.rng
    refine (Tryd.strconv_ParseInt_10_at64_range_var s (by omega) h tp p w hv).mono ?_
    rintro e w1 ⟨N, rfl, _, _, hb⟩
    exact ⟨.inr ⟨fun v e => (by cases e), _, _, N, rfl⟩, hb⟩

set_option maxRecDepth 20000 in
set_option maxHeartbeats 4000000 in
theorem ReadDecimal_any (s : ByteArray) (w : World) (hl : s.size ≤ 1048576) (he : EnvOk w) :
    Calls Tryd.prog 12 #[.string s] w fun e w' => NumP (byt s) e ∧ Below w.heap.size w w' := by
  have HE := Lib.hid he
  go_enter Tryd.func12, Tryd.ntmps12
  go_wp2_with fail
  refine (ParseInt_any s w hl he).mono ?_
  rintro e w1 ⟨⟨v, hv, v0, v1, rfl⟩ | ⟨hv, z, t, N, rfl⟩, hb1⟩
  · have HDC := Lib.hid (Decimal_any v w1 v0 v1 (HE.out.bs hb1).tab)
    go_wp2_with fail
    refine HDC.out.mono ?_
    rintro e w2 ⟨rfl, hb2⟩
    have HB := Lib.hid (Below.trans hb1 (hb2.mono hb1.size))
    clear hb1 hb2
    by_cases hs : bs_ (Lib.itoa v) = s
    · have e4 := ba_list_t hs
      have HS := Lib.hid (show byt s = Lib.itoa v by rw [← hs, byt_bs])
      clear hs
      obtain ⟨T, hT⟩ : ∃ T : ByteArray, T = ⟨(Lib.trimPrefix s.data.toList (⟨#[45]⟩ : ByteArray).data.toList).toArray⟩ := ⟨_, rfl⟩
      have hTL : T.size ≤ s.size := by
        rw [hT]
        have := trim_len (byt s)
        rw [byt_size] at this
        exact this
      have HTP := Lib.hid (fun W => Tryd.strings_TrimPrefix s ⟨#[45]⟩ W)
      rw [← hT] at HTP
      clear hT
      by_cases h18 : T.size ≤ 18
      · have i1 : ¬ (18 : Int) < (T.size : Int) := by omega
        go_wp2_with fail
        refine (HTP.out _).mono ?_
        rintro e w3 ⟨rfl, rfl⟩
        go_wp2
        go_ret2
        exact ⟨.inl ⟨v, rfl, HS.out, v0, v1⟩, HB.out⟩
      · have i1 : (18 : Int) < (T.size : Int) := by omega
        have HN := Lib.hid (show NoT (byt s) from noT_len (by rw [byt_size]; omega))
        go_wp2_with fail
        refine (HTP.out _).mono ?_
        rintro e w3 ⟨rfl, rfl⟩
        go_wp2
        go_ret2
        exact ⟨.inr ⟨rfl, HN.out⟩, HB.out⟩
    · have e4 := ba_list_f hs
      have HN := Lib.hid (show NoT (byt s) from noT_parse fun x hx e => hs (by rw [hv] at hx; injection hx with hx; rw [hx, e, bs_byt]))
      clear hs
      go_wp2
      go_ret2
      exact ⟨.inr ⟨rfl, HN.out⟩, HB.out⟩
  · have HN := Lib.hid (show NoT (byt s) from noT_parse_err hv)
    clear hv
    go_wp2
    go_ret2
    exact ⟨.inr ⟨rfl, HN.out⟩, hb1⟩
end Go.Proofs.YtkmejkeanmjfbaaDoor
