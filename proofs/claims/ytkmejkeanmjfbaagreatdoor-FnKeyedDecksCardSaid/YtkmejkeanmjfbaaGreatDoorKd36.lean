/- impl.ProgramRuns: the text of a program card. -/
import Derived.Test.YtkmejkeanmjfbaaGreatDoorKd22
import Derived.Test.YtkmejkeanmjfbaaGreatDoorKd7
import Derived.Test.YtkmejkeanmjfbaaGreatDoorKd27
import Derived.Deep.RegionLaw
/-! ### RunsProg -/
namespace Go.Proofs.YtkmejkeanmjfbaaGreatDoor
open Go.RowKit

/-! ### plain: runs from the left -/
structure RunP (p : List UInt8) (i : Nat) (rs : List (UInt8 × Nat)) : Prop where
  pre : p.take i = expand rs
  alt : altR rs
  pos : ∀ r ∈ rs, 1 ≤ r.2
  far : ∀ h : i < p.length, ¬ (expand rs).getLast? = some p[i]
theorem RunP.zero (p : List UInt8) : RunP p 0 [] := ⟨by simp [expand], trivial, by simp, fun h e => by simp [expand] at e⟩
theorem RunP.next {p : List UInt8} {i : Nat} {rs : List (UInt8 × Nat)} (h : RunP p i rs) {c : UInt8} {k : Nat} (hi : i < p.length) (hc : c = p[i]) (hk : i < k) (ht : p.take k = p.take i ++ List.replicate (k - i) c) (hf : ∀ h : k < p.length, ¬ p[k] = c) : RunP p k (rs ++ [(c, k - i)]) := by
  have hp : ∀ r ∈ rs ++ [(c, k - i)], 1 ≤ r.2 := fun r hr => by
    rcases List.mem_append.1 hr with hr | hr
    · exact h.pos r hr
    · rw [List.mem_singleton] at hr
      subst hr
      show 1 ≤ k - i
      omega
  refine ⟨by rw [ht, h.pre, expand_snoc], altR_snoc.2 ⟨h.alt, fun a ha e => ?_⟩, hp, fun hl e => ?_⟩
  · rcases List.eq_nil_or_concat rs with rfl | ⟨q, r, rfl⟩
    · simp at ha
    · rw [List.concat_eq_append] at ha h
      simp at ha
      subst ha
      exact h.far hi (by rw [last_expand (h.pos _ (by simp)), e, hc])
  · rw [last_expand (by show 1 ≤ k - i; omega)] at e
    injection e with e
    exact hf hl e.symm
theorem RunP.fin {p : List UInt8} {rs : List (UInt8 × Nat)} (h : RunP p p.length rs) : runsL p = rs := by
  have := h.pre
  rw [List.take_of_length_le (Nat.le_refl _)] at this
  rw [this, runsL_expand h.alt h.pos]
theorem RunP.cnt {p : List UInt8} {i : Nat} {rs : List (UInt8 × Nat)} (h : RunP p i rs) : rs.length ≤ i := by
  have h1 := congrArg List.length h.pre
  rw [List.length_take] at h1
  have : ∀ q : List (UInt8 × Nat), (∀ r ∈ q, 1 ≤ r.2) → q.length ≤ (expand q).length := by
    intro q
    induction q with
    | nil => intro _; simp
    | cons a t ih =>
      intro hq
      have h2 := hq a (by simp)
      have h3 := ih fun r hr => hq r (by simp [hr])
      rw [expand_cons, List.length_append, List.length_replicate, List.length_cons]
      omega
  have := this rs h.pos
  omega
theorem Decimal_small (i : Nat) (w : World) (hi : i < 100) : Calls Tryz.prog 53 #[.int .i64 (i : Int)] w fun e w' => e = .returned (.string (bs_ (t20 i))) ∧ w = w' := by
  have HD := Lib.hid (show Lib.decDigits i = t20 i by
    have h1 := itoa_t20 hi
    unfold Lib.itoa at h1
    rw [if_neg (by omega), show ((i : Int)).toNat = i by omega] at h1
    exact h1)
  go_enter Tryz.func53, Tryz.ntmps53
  go_wp2_with fail
  refine (Tryz.strconv_FormatInt_10_small i hi _).mono ?_
  rintro e w1 ⟨rfl, rfl⟩
  rw [HD.out]
  go_wp2
  go_ret
  exact ⟨rfl, rfl⟩
theorem JoinS_any (g cg : Nat) (L : List (List UInt8)) (w : World) (base : Nat) (ho : w.ownsRow base 9 1 (.slice (some ⟨g, 0, none⟩) L.length cg) L.length (sts L)) (hN : L.length ≤ 140737488355328) (hlen : (Lib.join L [32]).length ≤ 140737488355328) :
    Calls Tryz.prog 54 #[.slice (some ⟨g, 0, none⟩) L.length cg, .string ⟨#[32]⟩] w fun e w' => e = .returned (.string (bs_ (Lib.join L [32]))) ∧ Below w.heap.size w w' := by
  have e1 : (L.map bs_).map (·.data.toList) = L := by
    rw [List.map_map]
    conv => rhs; rw [← List.map_id L]
    exact List.map_congr_left fun s _ => by simp [bs_]
  have e2 : (⟨#[32]⟩ : ByteArray).data.toList = [32] := rfl
  have h := Tryz.strings_Join g 0 cg (L.map bs_) ⟨#[32]⟩ w (fun j x hx => by
    rw [List.getElem?_map] at hx
    obtain ⟨s, hs, rfl⟩ := Option.map_eq_some_iff.1 hx
    obtain ⟨hj, rfl⟩ := List.getElem?_eq_some_iff.1 hs
    have := own_cell ho j (by rw [sts_length]; exact hj)
    rw [Nat.zero_add, this]
    simp [sts]) (own_heap ho) (by rw [List.length_map]; exact hN) (by rw [List.length_map]; have h2 := ho.2; exact (own_cap ho).1) (by rw [e1, e2]; exact hlen)
  rw [e1, e2, List.length_map] at h
  exact h
theorem join_short {L : List (List UInt8)} {m : Nat} (h : ∀ x ∈ L, x.length ≤ m) : (Lib.join L [32]).length ≤ L.length * (m + 1) := by
  have tail : ∀ q : List (List UInt8), (∀ x ∈ q, x.length ≤ m) → (Lib.joinTail [32] q).length ≤ q.length * (m + 1) := by
    intro q
    induction q with
    | nil => intro _; simp [Lib.joinTail]
    | cons a t ih =>
      intro hq
      have h1 := hq a (by simp)
      have h2 := ih fun x hx => hq x (by simp [hx])
      have e : (Lib.joinTail [32] (a :: t)).length = 1 + a.length + (Lib.joinTail [32] t).length := by simp [Lib.joinTail]; omega
      rw [e, List.length_cons, Nat.succ_mul]
      omega
  cases L with
  | nil => simp [Lib.join_nil]
  | cons a t =>
    have h1 := h a (by simp)
    have h2 := tail t fun x hx => h x (by simp [hx])
    rw [Lib.join_cons, List.length_append, List.length_cons, Nat.succ_mul]
    omega
theorem wordOf_len {r : UInt8 × Nat} (h : r.2 ≤ 20) : (wordOf r).length ≤ 3 := by
  have := (t20_facts ⟨r.2, by omega⟩).2.2.2.1
  simp only at this
  unfold wordOf
  rw [List.length_cons]
  omega
/-- Behind i letters. -/
def PrR (s : ByteArray) (w wr : World) (o q : Value) : Prop := ∃ (i m g cg : Nat) (rs : List (UInt8 × Nat)), i ≤ s.size ∧ q = .int .i64 i ∧ m = rs.length ∧ o = .slice (some ⟨g, 0, none⟩) m cg ∧ RunP (byt s) i rs ∧
  wr.ownsRow w.heap.size 9 1 (.slice (some ⟨g, 0, none⟩) m cg) m (sts (rs.map wordOf)) ∧ Below w.heap.size w wr

set_option maxRecDepth 20000 in
set_option maxHeartbeats 8000000 in
theorem ProgramRuns_any (s : ByteArray) (w : World) (hl : s.size ≤ 1048576) :
    Calls Tryz.prog 15 #[.string s] w fun e w' => e = .returned (.string (bs_ (runsO s))) ∧ Below w.heap.size w w' := by
  obtain ⟨j0, hj, hj0, hj1, hj2⟩ := info_parts info_strS
  have HVP := Lib.hid (fun V => ValidProgram_any s V hl)
  cases hp : progB s with
  | false =>
    have HE := Lib.hid (show bs_ (runsO s) = ⟨#[]⟩ by unfold runsO; rw [if_neg (by simp [hp])]; rfl)
    rw [hp] at HVP
    clear hp
    go_enter Tryz.func15, Tryz.ntmps15
    go_wp2_with fail
    refine (HVP.out _).mono ?_
    rintro e w1 ⟨rfl, rfl⟩
    go_wp2
    go_ret
    exact ⟨ret_t HE.out.symm, b0 _⟩
  | true =>
    have hs20 := (progB_len hp).2
    have HO := Lib.hid (show runsO s = Lib.join ((runsL (byt s)).map wordOf) [32] by unfold runsO runsT; rw [if_pos hp])
    rw [hp] at HVP
    clear hp
    go_enter Tryz.func15, Tryz.ntmps15
    go_wp2_with fail
    refine (HVP.out _).mono ?_
    rintro e w1 ⟨rfl, rfl⟩
    go_wp2
    go_loopw [3, 4, 5] (fun o q _ wr => PrR s w wr o q) (fun _ q _ _ => s.size - (intOf q).toNat)
    case atStart => exact ⟨0, 0, w.heap.size, 0, [], Nat.zero_le _, rfl, rfl, rfl, RunP.zero _, own_lit w #[] 0 rfl (Nat.le_refl _) (by omega) rfl, ba (b0 w) (.cells #[] 9)⟩
    case round =>
      obtain ⟨wo, rfl⟩ : ∃ wo : World, wo = wr := ⟨_, rfl⟩
      obtain ⟨i, m, g, cg, rs, hi, rfl, hm, rfl, hrun, hown, hbw⟩ := hrel
      have hbase := hbw.size
      have HB0 := Lib.hid hbw
      have HRUN := Lib.hid hrun
      have HM := Lib.hid hm
      have hmi : m ≤ 20 := by have := hrun.cnt; omega
      clear hbw hrun hm
      by_cases hlt : i < s.size
      · have HIL := Lib.hid (show i < (byt s).length by rw [byt_size]; exact hlt)
        obtain ⟨c, hc⟩ : ∃ c, c = s[i] := ⟨_, rfl⟩
        have HC := Lib.hid (show c = (byt s)[i]'HIL.out from hc)
        have HCC := Lib.hid hc
        have HOWN := Lib.hid hown
        clear hown hc
        go_wp2
        go_loopw [5] (fun q wr => ∃ k : Nat, i ≤ k ∧ k ≤ s.size ∧ q = .int .i64 k ∧ (byt s).take k = (byt s).take i ++ List.replicate (k - i) c ∧ Below wo.heap.size wo wr) (fun q _ => s.size - (intOf q).toNat)
        case atStart => exact ⟨i, Nat.le_refl _, hi, rfl, by simp, b0 _⟩
        case round =>
          obtain ⟨wi, rfl⟩ : ∃ wi : World, wi = wr := ⟨_, rfl⟩
          obtain ⟨k, hik, hks, rfl, htk, hbi⟩ := hrel
          have HTK := Lib.hid htk
          have HBI := Lib.hid hbi
          clear htk hbi
          rcases (show (k < s.size ∧ ∃ h : k < s.size, s[k] = c) ∨ (k < s.size ∧ ∃ h : k < s.size, ¬ s[k] = c) ∨ k = s.size by
            by_cases hk : k < s.size
            · by_cases hsc : s[k] = c
              · exact .inl ⟨hk, hk, hsc⟩
              · exact .inr (.inl ⟨hk, hk, hsc⟩)
            · exact .inr (.inr (by omega))) with ⟨hk, _, hsc⟩ | hex
          · have i1 : (k : Int) < (s.size : Int) := by omega
            have e5 := beq_t (show (s[k].toNat : Int) = (s[i].toNat : Int) by rw [hsc, HCC.out])
            have HKL := Lib.hid (show k < (byt s).length by rw [byt_size]; exact hk)
            have HT2 := Lib.hid (show (byt s).take (k + 1) = (byt s).take i ++ List.replicate (k + 1 - i) c by
              rw [List.take_succ_eq_append_getElem HKL.out, HTK.out, show k + 1 - i = (k - i) + 1 by omega, List.replicate_succ', ← List.append_assoc, byt_at s k hk, hsc])
            clear hsc
            go_wp2_with fail
            refine wp_region_later (by kernel_rfl) (by kernel_rfl) ?_
            repeat (go_big_quiet_step (fail))
            refine wpQuiet_nil ?_
            intro wt hbt
            have HB2 := Lib.hid (bs HBI.out hbt)
            clear hbt
            go_wp2
            go_roundw
            case rel => exact ⟨k + 1, by omega, by omega, by go_num, HT2.out, HB2.out⟩
            case measure => (simp [intOf]; try omega)
          · have HFAR := Lib.hid (show ∀ h : k < (byt s).length, ¬ (byt s)[k] = c from fun h => by
              rcases hex with ⟨_, hk, hne⟩ | rfl
              · exact hne
              · rw [byt_size] at h; omega)
            have HIK := Lib.hid (show i < k by
              rcases hex with ⟨_, hk, hne⟩ | rfl
              · rcases Nat.lt_or_ge i k with h | h
                · exact h
                · obtain rfl : k = i := by omega
                  exact absurd HCC.out.symm hne
              · exact hlt)
            have HNX := Lib.hid (HRUN.out.next HIL.out HC.out HIK.out HTK.out HFAR.out)
            obtain ⟨N, hN⟩ : ∃ N, N = k - i := ⟨_, rfl⟩
            have hN20 : N < 100 := by omega
            have hkw : IntKind.i64.wrap ((k : Int) - (i : Int)) = (N : Int) := by rw [IntKind.wrap_i64]; have := HIK.out; omega
            have HNN := Lib.hid hN
            obtain ⟨I, hI⟩ : ∃ I, I = i + 1 := ⟨_, rfl⟩
            have hwi : IntKind.i64.wrap ((i : Int) + 1) = (I : Int) := by rw [IntKind.wrap_i64]; omega
            have hI1 : (I : Int) ≤ (s.size : Int) := by omega
            have hI2 : (i : Int) ≤ (I : Int) := by omega
            have HX := Lib.hid (show s.extract i I = bs_ [c] from ext_bs (by
              rw [hI]
              rw [List.take_succ_eq_append_getElem HIL.out, List.drop_append_of_le_length (by rw [List.length_take]; have := HIL.out; omega), List.drop_of_length_le (by rw [List.length_take]; omega), List.nil_append, HC.out]))
            have hsz : ¬ 9223372036854775807 < min I s.size - i + (bs_ (t20 N)).size := by
              rw [bs_size]
              have h2 := (t20_facts ⟨N, by omega⟩).2.2.2.1
              simp only at h2
              omega
            have HDC := Lib.hid (fun V => Decimal_small N V hN20)
            have HWD := Lib.hid (show s.extract i I ++ bs_ (t20 N) = bs_ (wordOf (c, N)) by rw [HX.out, cat_bs]; rfl)
            clear hN hI
            have key : ∀ wt : World, Below wi.heap.size wi wt → True := fun _ _ => trivial
            clear key
            have HOWI := Lib.hid (own_bs HOWN.out HBI.out)
            have HBWI := Lib.hid (HB0.out.trans (HBI.out.mono hbase))
            rcases hex with ⟨hk, _, hne⟩ | rfl
            · have i1 : (k : Int) < (s.size : Int) := by omega
              have e5 := beq_f (show ¬ (s[k].toNat : Int) = (s[i].toNat : Int) from fun e => hne (by rw [HCC.out]; exact UInt8.toNat_inj.1 (by omega)))
              clear hne
              go_wp2_with fail
              refine wp_region_later (by kernel_rfl) (by kernel_rfl) ?_
              repeat (go_big_quiet_step (fail))
              refine wpQuiet_nil ?_
              intro wt hbt
              have hot := own_bs HOWI.out hbt
              have hbt2 := HBWI.out.trans (hbt.mono HBWI.out.size)
              have hbs := hbt2.size
              clear hbt
              go_wp2_with fail
              go_region_law (first
                | (refine step_ap rfl (.tmp 30) (.tmp 41) 27 rfl w.heap.size 9 j0 _ 1 16 Tryz.underlying27 hj hj0 hj1 hj2 rfl (by omega) (some ⟨g, 0, none⟩) m cg (sts (rs.map wordOf)) _ (by simp [Act.eval]) (hot.alloc _) 1 _ wt.heap.size (by first | exact heap_alloc_new wt _ | exact heap_alloc_new wt.drew _) (by simp [Act.eval]) rfl (by intro v hv; simp at hv; subst hv; rfl) (by omega) (by omega) (by omega) (by simp; omega) ?_; intro gg cap w3 hown3 hb3 hg3 hlt3)
                | (go_simp; go_at_call 53; refine (HDC.out _).mono ?_; rintro e w7 ⟨rfl, rfl⟩))
              all_goals
                have HB3 := Lib.hid (show Below w.heap.size w w3 by first | exact (hbt2.alloc hbt2.size _).trans hb3 | exact (hbt2.drew.alloc hbt2.size _).trans hb3)
                have HO3 := Lib.hid (show w3.ownsRow w.heap.size 9 1 (.slice (some ⟨gg, 0, none⟩) (m + 1) cap) (m + 1) (sts ((rs ++ [(c, N)]).map wordOf)) by rw [List.map_append, List.map_cons, List.map_nil, sts_snoc, ← HWD.out]; exact hown3)
                clear hown3 hb3 hg3 hlt3 hot hbt2
                go_wp2
                go_roundw
                case rel =>
                  have P : PrR s w w3 (.slice (some ⟨gg, 0, none⟩) (m + 1) cap) (.int .i64 (k : Int)) := ⟨k, m + 1, gg, cap, rs ++ [(c, N)], hks, rfl, by rw [List.length_append, HM.out]; rfl, rfl, by rw [HNN.out]; exact HNX.out, HO3.out, HB3.out⟩
                  first | exact P | exact ⟨_, P, rfl⟩ | exact ⟨_, _, P, rfl, rfl⟩ | exact ⟨_, _, _, P, rfl, rfl, rfl⟩ | exact ⟨_, _, _, _, P, rfl, rfl, rfl, rfl⟩ | exact ⟨_, _, _, _, _, P, rfl, rfl, rfl, rfl, rfl⟩ | exact ⟨_, _, _, _, _, _, P, rfl, rfl, rfl, rfl, rfl, rfl⟩ | exact ⟨_, _, _, _, _, _, _, P, rfl, rfl, rfl, rfl, rfl, rfl, rfl⟩ | exact ⟨_, _, _, _, _, _, _, _, P, rfl, rfl, rfl, rfl, rfl, rfl, rfl, rfl⟩
                case measure => (simp [intOf]; have := HIK.out; try omega)
            · go_wp2_with fail
              refine wp_region_later (by kernel_rfl) (by kernel_rfl) ?_
              repeat (go_big_quiet_step (fail))
              refine wpQuiet_nil ?_
              intro wt hbt
              have hot := own_bs HOWI.out hbt
              have hbt2 := HBWI.out.trans (hbt.mono HBWI.out.size)
              have hbs := hbt2.size
              clear hbt
              go_wp2_with fail
              go_region_law (first
                | (refine step_ap rfl (.tmp 30) (.tmp 41) 27 rfl w.heap.size 9 j0 _ 1 16 Tryz.underlying27 hj hj0 hj1 hj2 rfl (by omega) (some ⟨g, 0, none⟩) m cg (sts (rs.map wordOf)) _ (by simp [Act.eval]) (hot.alloc _) 1 _ wt.heap.size (by first | exact heap_alloc_new wt _ | exact heap_alloc_new wt.drew _) (by simp [Act.eval]) rfl (by intro v hv; simp at hv; subst hv; rfl) (by omega) (by omega) (by omega) (by simp; omega) ?_; intro gg cap w3 hown3 hb3 hg3 hlt3)
                | (go_simp; go_at_call 53; refine (HDC.out _).mono ?_; rintro e w7 ⟨rfl, rfl⟩))
              all_goals
                have HB3 := Lib.hid (show Below w.heap.size w w3 by first | exact (hbt2.alloc hbt2.size _).trans hb3 | exact (hbt2.drew.alloc hbt2.size _).trans hb3)
                have HO3 := Lib.hid (show w3.ownsRow w.heap.size 9 1 (.slice (some ⟨gg, 0, none⟩) (m + 1) cap) (m + 1) (sts ((rs ++ [(c, N)]).map wordOf)) by rw [List.map_append, List.map_cons, List.map_nil, sts_snoc, ← HWD.out]; exact hown3)
                clear hown3 hb3 hg3 hlt3 hot hbt2
                go_wp2
                go_roundw
                case rel =>
                  have P : PrR s w w3 (.slice (some ⟨gg, 0, none⟩) (m + 1) cap) (.int .i64 (s.size : Int)) := ⟨s.size, m + 1, gg, cap, rs ++ [(c, N)], hks, rfl, by rw [List.length_append, HM.out]; rfl, rfl, by rw [HNN.out]; exact HNX.out, HO3.out, HB3.out⟩
                  first | exact P | exact ⟨_, P, rfl⟩ | exact ⟨_, _, P, rfl, rfl⟩ | exact ⟨_, _, _, P, rfl, rfl, rfl⟩ | exact ⟨_, _, _, _, P, rfl, rfl, rfl, rfl⟩ | exact ⟨_, _, _, _, _, P, rfl, rfl, rfl, rfl, rfl⟩ | exact ⟨_, _, _, _, _, _, P, rfl, rfl, rfl, rfl, rfl, rfl⟩ | exact ⟨_, _, _, _, _, _, _, P, rfl, rfl, rfl, rfl, rfl, rfl, rfl⟩ | exact ⟨_, _, _, _, _, _, _, _, P, rfl, rfl, rfl, rfl, rfl, rfl, rfl, rfl⟩
                case measure => (simp [intOf]; have := HIK.out; try omega)
      · obtain rfl : i = s.size := by omega
        have HRL := Lib.hid (show runsL (byt s) = rs from RunP.fin (by rw [byt_size]; exact HRUN.out))
        have HO2 := Lib.hid (show runsO s = Lib.join (rs.map wordOf) [32] by rw [HO.out, HRL.out])
        have HP := Lib.hid HRUN.out.pos
        have HLE := Lib.hid (show ∀ x ∈ rs.map wordOf, x.length ≤ 3 from fun x hx => by
          obtain ⟨r, hr, rfl⟩ := List.mem_map.1 hx
          refine wordOf_len ?_
          have h1 := expand_len hr
          have h2 := congrArg List.length HRUN.out.pre
          rw [List.length_take, byt_size] at h2
          omega)
        have HML := Lib.hid (show (rs.map wordOf).length = m by rw [List.length_map, HM.out])
        have HJ := Lib.hid (JoinS_any g cg (rs.map wordOf) wo w.heap.size (by rw [HML.out]; exact hown) (by rw [HML.out]; omega) (by have := join_short HLE.out; rw [HML.out] at this; omega))
        rw [HML.out] at HJ
        clear hown
        go_wp2_with fail
        refine HJ.out.mono ?_
        rintro e w1 ⟨rfl, hb1⟩
        have HB := Lib.hid (bs HB0.out hb1)
        clear hb1
        go_wp2
        go_ret
        exact ⟨ret_t (by rw [HO2.out]), HB.out⟩
end Go.Proofs.YtkmejkeanmjfbaaGreatDoor
