/- VerifyAll: the plain result; in the reference. -/
import Derived.Test.YthbgdnjlmaadjaaVerify
import Derived.Test.YthbgdnjlmaadjaaLater
namespace Go.Proofs.Ythbgdnjlmaadjaa
open Go.RowKit

/-! ### plain -/
def befL (xs : List Int) (L : List (List Int)) (i : Nat) : List Int := if i = 0 then xs else L.getD (i - 1) []
def txt (ts : List ByteArray) (i : Nat) : ByteArray := ts.getD i ⟨#[]⟩
def vaP (s : ByteArray) (xs : List Int) (L : List (List Int)) (ts : List ByteArray) (i : Nat) : Bool := decide (0 ≤ verV s (befL xs L i) (txt ts i) (L.getD i []))
def vaO (s : ByteArray) (ts : List ByteArray) (i : Nat) : Option Int := if chkC s (txt ts i) = 0 then none else some (chkC s (txt ts i))
def l5C (s : ByteArray) (xs : List Int) : Int := if progB s = true ∧ cardOk xs = true then (if xs.length = s.size then 0 else 2) else 1
def vaQ (s : ByteArray) (xs : List Int) (L : List (List Int)) (m : Nat) : Int := if pgC s (deckOk L) (xs :: L) = 0 then (if m = L.length then 0 else 2) else pgC s (deckOk L) (xs :: L)
def vaC (s : ByteArray) (xs : List Int) (L : List (List Int)) (ts : List ByteArray) : Int := if vaQ s xs L ts.length = 0 then (((List.range L.length).findSome? (vaO s ts)).getD 0) else vaQ s xs L ts.length
def vaR (s : ByteArray) (xs : List Int) (L : List (List Int)) (ts : List ByteArray) : List Int := if vaC s xs L ts = 0 then colsWhere (vaP s xs L ts) L.length else []
theorem vaR_0 {s : ByteArray} {xs : List Int} {L : List (List Int)} {ts : List ByteArray} (h : vaC s xs L ts = 0) : vaR s xs L ts = colsWhere (vaP s xs L ts) L.length := by unfold vaR; rw [if_pos h]
theorem vaR_1 {s : ByteArray} {xs : List Int} {L : List (List Int)} {ts : List ByteArray} (h : ¬ vaC s xs L ts = 0) : vaR s xs L ts = [] := by unfold vaR; rw [if_neg h]
theorem vaC_q {s : ByteArray} {xs : List Int} {L : List (List Int)} {ts : List ByteArray} (h : ¬ vaQ s xs L ts.length = 0) : vaC s xs L ts = vaQ s xs L ts.length := by unfold vaC; rw [if_neg h]
def NoK (s : ByteArray) (ts : List ByteArray) (k : Nat) : Prop := ∀ j, j < k → chkC s (txt ts j) = 0
theorem NoK.zero (s : ByteArray) (ts : List ByteArray) : NoK s ts 0 := fun j h => absurd h (Nat.not_lt_zero j)
theorem NoK.succ {s : ByteArray} {ts : List ByteArray} {k : Nat} (h : NoK s ts k) (hk : chkC s (txt ts k) = 0) : NoK s ts (k + 1) := by
  intro j hj
  rcases Nat.lt_succ_iff_lt_or_eq.1 hj with hj | rfl
  · exact h j hj
  · exact hk
theorem vaC_some {s : ByteArray} {xs : List Int} {L : List (List Int)} {ts : List ByteArray} {k : Nat} (hq : vaQ s xs L ts.length = 0) (hk : k < L.length) (hno : NoK s ts k) (hc : ¬ chkC s (txt ts k) = 0) : vaC s xs L ts = chkC s (txt ts k) := by
  unfold vaC
  rw [if_pos hq, ff_some hk (fun j hj => by unfold vaO; rw [if_pos (hno j hj)]) (show vaO s ts k = some (chkC s (txt ts k)) by unfold vaO; rw [if_neg hc])]
  rfl
theorem vaC_none {s : ByteArray} {xs : List Int} {L : List (List Int)} {ts : List ByteArray} (hq : vaQ s xs L ts.length = 0) (hno : NoK s ts L.length) : vaC s xs L ts = 0 := by
  unfold vaC
  have : (List.range L.length).findSome? (vaO s ts) = none := by
    rw [List.findSome?_eq_none_iff]
    intro j hj
    unfold vaO
    rw [if_pos (hno j (List.mem_range.1 hj))]
  rw [if_pos hq, this]
  rfl
theorem deck_all {L : List (List Int)} (h : deckOk L = true) : L.all cardOk = true := by
  refine List.all_eq_true.2 fun x hx => ?_
  obtain ⟨k, hk, rfl⟩ := List.mem_iff_getElem.1 hx
  exact (deckOk_card h hk).1
section
variable {s : ByteArray} {xs : List Int} {L : List (List Int)} {m : Nat}
theorem pg_bad (h : deckOk L = false) : vaQ s xs L m = 1 := by
  have : pgC s (deckOk L) (xs :: L) = 1 := by unfold pgC; rw [if_neg (by simp [h])]
  unfold vaQ
  rw [this, if_neg (by omega)]
theorem pg_z (h : deckOk L = true) (hz : ¬ l5C s xs = 0) : vaQ s xs L m = l5C s xs := by
  have : pgC s (deckOk L) (xs :: L) = l5C s xs := by
    unfold pgC l5C
    unfold l5C at hz
    by_cases h1 : progB s = true ∧ cardOk xs = true
    · rw [if_pos h1] at hz ⊢
      rw [if_pos ⟨h1.1, h, by rw [List.all_cons, h1.2, deck_all h]; rfl⟩]
      by_cases h2 : xs.length = s.size
      · rw [if_pos h2] at hz; omega
      · rw [if_neg h2, if_neg (by unfold widB; simp [h2])]
    · rw [if_neg h1, if_neg]
      rintro ⟨g1, _, g3⟩
      rw [List.all_cons, Bool.and_eq_true] at g3
      exact h1 ⟨g1, g3.1⟩
  unfold vaQ
  rw [this, if_neg hz]
theorem l5C_0 (h : l5C s xs = 0) : progB s = true ∧ cardOk xs = true ∧ xs.length = s.size := by
  unfold l5C at h
  split at h
  · rename_i h1
    split at h
    · rename_i h2
      exact ⟨h1.1, h1.2, h2⟩
    · omega
  · omega
theorem pg_two (h : deckOk L = true) (hz : l5C s xs = 0) : pgC s (deckOk L) (xs :: L) = if L.all (widB s) = true then 0 else 2 := by
  obtain ⟨h1, h2, h3⟩ := l5C_0 hz
  unfold pgC
  rw [if_pos ⟨h1, h, by rw [List.all_cons, h2, deck_all h]; rfl⟩]
  have : (xs :: L).all (widB s) = L.all (widB s) := by rw [List.all_cons]; unfold widB; simp [h3]
  rw [this]
theorem pg_m (h : deckOk L = true) (hz : l5C s xs = 0) (hm : ¬ m = L.length) : vaQ s xs L m = 2 := by
  unfold vaQ
  rw [pg_two h hz]
  by_cases hw : L.all (widB s) = true
  · rw [if_pos hw, if_pos rfl, if_neg hm]
  · rw [if_neg hw, if_neg (by omega)]
theorem pg_w (h : deckOk L = true) (hz : l5C s xs = 0) (h0 : 0 < L.length) (hw : ¬ (L[0]'h0).length = s.size) : vaQ s xs L m = 2 := by
  have : L.all (widB s) = false := al_bad h0 (by unfold widB; simp [hw])
  unfold vaQ
  rw [pg_two h hz, this]
  simp
theorem pg_0 (h : deckOk L = true) (hz : l5C s xs = 0) (hm : m = L.length) (hw : ∀ (h0 : 0 < L.length), (L[0]'h0).length = s.size) : vaQ s xs L m = 0 ∧ ∀ k (hk : k < L.length), L[k].length = s.size := by
  have key : ∀ k (hk : k < L.length), L[k].length = s.size := fun k hk => by
    rw [(deckOk_card h hk).2, ← hw (by omega), (deckOk_card h (show 0 < L.length by omega)).2]
  refine ⟨?_, key⟩
  have : L.all (widB s) = true := by
    refine List.all_eq_true.2 fun x hx => ?_
    obtain ⟨k, hk, rfl⟩ := List.mem_iff_getElem.1 hx
    unfold widB
    simp [key k hk]
  unfold vaQ
  rw [pg_two h hz, if_pos this, if_pos rfl, if_pos hm]
theorem vaQ_0 (h : vaQ s xs L m = 0) : deckOk L = true ∧ l5C s xs = 0 ∧ m = L.length ∧ ∀ k (hk : k < L.length), L[k].length = s.size := by
  cases hd : deckOk L with
  | false => rw [pg_bad hd] at h; omega
  | true =>
    by_cases hz : l5C s xs = 0
    · by_cases hm : m = L.length
      · refine ⟨rfl, hz, hm, ?_⟩
        by_cases h0 : 0 < L.length
        · by_cases hw : (L[0]'h0).length = s.size
          · exact (pg_0 hd hz hm fun _ => hw).2
          · rw [pg_w hd hz h0 hw] at h; omega
        · intro k hk
          omega
      · rw [pg_m hd hz hm] at h; omega
    · rw [pg_z hd hz] at h; exact absurd h hz
end
theorem vaR_length (s : ByteArray) (xs : List Int) (L : List (List Int)) (ts : List ByteArray) : (vaR s xs L ts).length ≤ 40 := by
  unfold vaR
  split
  · rename_i h
    have hq : vaQ s xs L ts.length = 0 := by
      by_cases hq : vaQ s xs L ts.length = 0
      · exact hq
      · rw [vaC_q hq] at h; exact absurd h hq
    have h1 := colsWhere_le (vaP s xs L ts) L.length
    have h2 := deckOk_len (vaQ_0 hq).1
    omega
  · simp
theorem befL_succ {xs : List Int} {hs : List Hd} {k : Nat} (h : k < hs.length) : befL xs (cards hs) (k + 1) = hs[k].xs := by
  unfold befL
  rw [if_neg (by omega), Nat.add_sub_cancel, List.getD_eq_getElem?_getD, cards_get hs k h]
  rfl
theorem txt_at {ts : List ByteArray} {k : Nat} (h : k < ts.length) : txt ts k = ts[k] := by simp [txt, List.getD, List.getElem?_eq_getElem h]
theorem cards_getD {hs : List Hd} {k : Nat} (h : k < hs.length) : (cards hs).getD k [] = hs[k].xs := by rw [List.getD_eq_getElem?_getD, cards_get hs k h]; rfl

theorem l05Code_any (s : ByteArray) (p o : Nat) (A : Option Addr) (c : Nat) (xs : List Int) (w : World) (hc : w.cell? ⟨p, o, none⟩ = some (.slice A xs.length c)) (ha : Rd w w.heap.size 1 A xs.length (ints xs)) (hl : xs.length ≤ 1048576) (hs : s.size ≤ 1048576) :
    Calls Try.prog 122 #[.string s, .pointer (some ⟨p, o, none⟩)] w fun e w' => e = .returned (.int .i64 (l5C s xs)) ∧ Below w.heap.size w w' := by
  cases hp : progB s
  · have HC := Lib.hid (show l5C s xs = 1 by unfold l5C; rw [if_neg (by simp [hp])])
    have HP := Lib.hid hp
    clear hp
    go_enter Try.func122, Try.ntmps122
    go_wp2_with fail
    refine (l05Ok_any s _ hs).mono ?_
    rw [HP.out]
    rintro e w1 ⟨rfl, rfl⟩
    go_wp2
    go_ret
    exact ⟨ret_int HC.out.symm, b0 _⟩
  · have HP := Lib.hid hp
    clear hp
    have HOK := Lib.hid (l02Ok_any p o A c xs w hc ha hl)
    cases hk : cardOk xs
    · have HC := Lib.hid (show l5C s xs = 1 by unfold l5C; rw [if_neg (by simp [hk])])
      rw [hk] at HOK
      clear hk
      go_enter Try.func122, Try.ntmps122
      go_wp2_with fail
      refine (l05Ok_any s _ hs).mono ?_
      rw [HP.out]
      rintro e w1 ⟨rfl, rfl⟩
      go_wp2_with fail
      refine HOK.out.mono ?_
      rintro e w2 ⟨rfl, hb2⟩
      go_wp2
      go_ret
      exact ⟨ret_int HC.out.symm, hb2⟩
    · rw [hk] at HOK
      by_cases hw : xs.length = s.size
      · have HC := Lib.hid (show l5C s xs = 0 by unfold l5C; rw [if_pos ⟨HP.out, hk⟩, if_pos hw])
        have i1 : ((xs.length : Int) != (s.size : Int)) = false := bne_f (by omega)
        clear hk hw
        go_enter Try.func122, Try.ntmps122
        go_wp2_with fail
        refine (l05Ok_any s _ hs).mono ?_
        rw [HP.out]
        rintro e w1 ⟨rfl, rfl⟩
        go_wp2_with fail
        refine HOK.out.mono ?_
        rintro e w2 ⟨rfl, hb2⟩
        have hc2 := cell_later hb2 hc
        go_wp2
        go_ret
        exact ⟨ret_int HC.out.symm, hb2⟩
      · have HC := Lib.hid (show l5C s xs = 2 by unfold l5C; rw [if_pos ⟨HP.out, hk⟩, if_neg hw])
        have i1 : ((xs.length : Int) != (s.size : Int)) = true := bne_t (by omega)
        clear hk hw
        go_enter Try.func122, Try.ntmps122
        go_wp2_with fail
        refine (l05Ok_any s _ hs).mono ?_
        rw [HP.out]
        rintro e w1 ⟨rfl, rfl⟩
        go_wp2_with fail
        refine HOK.out.mono ?_
        rintro e w2 ⟨rfl, hb2⟩
        have hc2 := cell_later hb2 hc
        go_wp2
        go_ret
        exact ⟨ret_int HC.out.symm, hb2⟩

/-- Behind k cards. -/
def VsR (s : ByteArray) (xs : List Int) (hs : List Hd) (ts : List ByteArray) (W wr : World) (q11 q12 q13 : Value) : Prop := ∃ (k : Nat) (G : Option Addr) (cg pb po : Nat) (h : Option Addr) (hc : Nat), k ≤ hs.length ∧ q13 = .int .i64 k ∧ q11 = .slice G (colsWhere (vaP s xs (cards hs) ts) k).length cg ∧
  q12 = .pointer (some ⟨pb, po, none⟩) ∧ W.cell? ⟨pb, po, none⟩ = some (.slice h s.size hc) ∧ Rd W W.heap.size 1 h s.size (ints (befL xs (cards hs) k)) ∧ (befL xs (cards hs) k).length = s.size ∧ NoK s ts k ∧
  wr.ownsRow W.heap.size 2 1 (.slice G (colsWhere (vaP s xs (cards hs) ts) k).length cg) (colsWhere (vaP s xs (cards hs) ts) k).length (ints (colsWhere (vaP s xs (cards hs) ts) k)) ∧ Below W.heap.size W wr
set_option maxRecDepth 100000 in
set_option maxHeartbeats 8000000 in
theorem spVerifyAll_any (s : ByteArray) (A : Option Addr) (c : Nat) (xs : List Int) (D : Option Addr) (cd : Nat) (hs : List Hd) (K : Option Addr) (ck : Nat) (ts : List ByteArray) (w : World) (hs0 : s.size ≤ 1048576)
    (ha : Rd w w.heap.size 1 A xs.length (ints xs)) (hl : xs.length ≤ 1048576) (_hc : xs.length ≤ c) (hd : RdD w w.heap.size D hs) (hl2 : hs.length + tot hs ≤ 1048576) (_hcd : hs.length ≤ cd) (hk : Rd w w.heap.size 1 K ts.length (strv ts)) (hl3 : ts.length ≤ 1048576) (ht : ∀ t ∈ ts, t.size ≤ 1048576) :
    Calls Try.prog 62 #[.string s, .agg #[.slice A xs.length c], .slice D hs.length cd, .slice K ts.length ck] w fun e w' => ∃ B d, e = .returned (.tuple #[.slice B (vaR s xs (cards hs) ts).length d, .int .i64 (vaC s xs (cards hs) ts)]) ∧
      w'.ownsRow w.heap.size 2 1 (.slice B (vaR s xs (cards hs) ts).length d) (vaR s xs (cards hs) ts).length (ints (vaR s xs (cards hs) ts)) ∧ Below w.heap.size w w' := by
  obtain ⟨i0, hi, hi0, hi1, hi2⟩ := info_parts info_i64
  have T0 := ba (b0 w) (.cells #[.slice A xs.length c] 26)
  have k5 := cell_new (w := w) (cs := #[.slice A xs.length c]) (e := 26) (j := 0) (H := w.heap.size) rfl rfl
  obtain ⟨W, hW⟩ : ∃ W, W = w.alloc (.cells #[.slice A xs.length c] 26) := ⟨_, rfl⟩
  have ra := ha.up T0
  have rd := hd.up T0
  have rk := hk.up T0
  rw [← hW] at T0 k5 ra rd rk
  have HW := Lib.hid hW
  have HT := Lib.hid ht
  obtain ⟨z, hz⟩ : ∃ z, z = l5C s xs := ⟨_, rfl⟩
  have HZ := Lib.hid hz
  obtain ⟨dk, hdk⟩ : ∃ dk, dk = deckOk (cards hs) := ⟨_, rfl⟩
  have HDK := Lib.hid hdk
  clear hW ha hd hk ht hz hdk
  go_enter Try.func62, Try.ntmps62
  go_wp2_with fail
  rw [← HW.out]
  refine (l05Code_any s w.heap.size 0 A c xs _ k5 ra hl hs0).mono ?_
  rw [← HZ.out]
  rintro e w1 ⟨rfl, hb1⟩
  have rd1 := rd.up hb1
  go_wp2_with fail
  refine (l02Deck_any D cd hs _ rd1 hl2).mono ?_
  rw [← HDK.out]
  rintro e w2 ⟨rfl, hb2⟩
  have B2 := bs hb1 hb2
  clear hb1 hb2 rd1
  have bad : ∀ q : Int, vaQ s xs (cards hs) ts.length = q → ¬ q = 0 → vaC s xs (cards hs) ts = q ∧ vaR s xs (cards hs) ts = [] := fun q h1 h2 => by
    have h3 : vaC s xs (cards hs) ts = q := by rw [vaC_q (by rw [h1]; exact h2), h1]
    exact ⟨h3, vaR_1 (by rw [h3]; exact h2)⟩
  have HBAD := Lib.hid bad
  clear bad
  cases dk
  · obtain ⟨hq1, hq2⟩ := HBAD.out 1 (pg_bad HDK.out.symm) (by omega)
    have HQ1 := Lib.hid hq1
    have HQ2 := Lib.hid hq2
    clear hq1 hq2
    go_wp2
    go_ret2
    rw [HQ1.out, HQ2.out]
    exact ⟨none, 0, rfl, World.ownsRow_nil _ _ _ _, bs T0 B2⟩
  · by_cases hz0 : z = 0
    · have HZ0 := Lib.hid (show l5C s xs = 0 by rw [← HZ.out, hz0])
      have n0 : (z == 0) = true := beq_t hz0
      have n1 : (z != 0) = false := bne_f hz0
      by_cases hm : ts.length = hs.length
      · have m1 : ((ts.length : Int) != (hs.length : Int)) = false := bne_f (by omega)
        have HMC := Lib.hid (show ts.length = (cards hs).length by rw [cards_length, hm])
        have HGO : (∀ (h0 : 0 < hs.length), (hs[0]'h0).xs.length = s.size) → (∀ (q : Value), q = .int .i64 z → vaQ s xs (cards hs) ts.length = 0) := fun hw q _ => (pg_0 HDK.out.symm HZ0.out HMC.out (fun h0 => by
          rw [cards_length] at h0
          rw [cards_at hs 0 (by rw [cards_length]; exact h0)]
          exact hw h0)).1
        have HGOH := Lib.hid HGO
        clear HGO
        have tail : vaQ s xs (cards hs) ts.length = 0 → True := fun _ => trivial
        clear tail
        by_cases h0 : 0 < hs.length
        · have r2 := rd.up B2
          obtain ⟨b, off, hD, _, hcl⟩ := r2.at_ h0
          have d1 := hcl 0 h0
          rw [Nat.add_zero] at d1
          subst hD
          clear hcl r2
          have p1 : (0 : Int) < (hs.length : Int) := by omega
          by_cases hw : (hs[0]'h0).xs.length = s.size
          · have w0 : (((hs[0]'h0).xs.length : Int) != (s.size : Int)) = false := bne_f (by omega)
            have HQ := Lib.hid (HGOH.out (fun _ => hw) _ rfl)
            have HWX := Lib.hid (show True from trivial)
            clear hw
            clear HGOH
            have HV := Lib.hid (vaQ_0 HQ.out)
            have HXL := Lib.hid (l5C_0 HZ0.out)
            have hrow : (w2.alloc (.cells #[] 2)).ownsRow W.heap.size 2 1 (.slice (some ⟨w2.heap.size, 0, none⟩) 0 0) 0 [] := own_lit w2 #[] 0 rfl B2.size (by omega) rfl
            have HROW := Lib.hid hrow
            have B3 := ba B2 (.cells #[] 2)
            have HB3 := Lib.hid B3
            clear hrow B3
            go_wp2
            go_loopw [10, 11, 12, 13] (fun _ q11 q12 q13 wr => VsR s xs hs ts W wr q11 q12 q13) (fun _ _ _ q _ => hs.length - (intOf q).toNat)
            case atStart =>
              have e := HXL.out.2.2
              exact ⟨0, some ⟨w2.heap.size, 0, none⟩, 0, w.heap.size, 0, A, c, Nat.zero_le _, rfl, rfl, rfl, by rw [← e]; exact k5, by rw [← e]; exact ra, e, NoK.zero _ _, HROW.out, HB3.out⟩
            case round =>
              obtain ⟨wo, rfl⟩ : ∃ wo : World, wo = wr := ⟨_, rfl⟩
              obtain ⟨k, G, cg, pb, po, h, hc, hkn, rfl, rfl, rfl, hcell, hrb, hbl, hno, hown, hbw⟩ := hrel
              by_cases hlt : k < hs.length
              · have i1 : (k : Int) < (hs.length : Int) := by omega
                have hkt : k < ts.length := by omega
                have i2 : (k : Int) < (ts.length : Int) := by omega
                obtain ⟨bK, oK, hKe, _, hcK⟩ := (rk.up hbw).at_ hkt
                have dK := hcK k _ (strv_get ts k hkt)
                subst hKe
                have hbw0 := hbw
                obtain ⟨M, hM⟩ : ∃ M, M = colsWhere (vaP s xs (cards hs) ts) k := ⟨_, rfl⟩
                have hMk : M.length ≤ k := by rw [hM]; exact colsWhere_le _ _
                rw [← hM] at hown ⊢
                have HM := Lib.hid hM
                have HNO := Lib.hid hno
                have HBL := Lib.hid hbl
                have HTX := Lib.hid (txt_at hkt)
                have HTS := Lib.hid (HT.out ts[k] (List.getElem_mem hkt))
                have HP := Lib.hid HXL.out.1
                obtain ⟨t, ht⟩ : ∃ t, t = ts[k] := ⟨_, rfl⟩
                rw [← ht] at dK HTX HTS
                have hKc : k < (cards hs).length := by rw [cards_length]; exact hlt
                have HWK := Lib.hid (show hs[k].xs.length = s.size by rw [← cards_at hs k hKc]; exact HV.out.2.2.2 k hKc)
                obtain ⟨y, hy⟩ : ∃ y, y = chkC s t := ⟨_, rfl⟩
                have HY := Lib.hid hy
                clear hcK hno hbl hM ht hy
                go_wp2_with fail
                refine (l05Check_any s t _ HP.out HTS.out).mono ?_
                rw [← HY.out]
                rintro e w3 ⟨rfl, rfl⟩
                by_cases hy0 : y = 0
                · have y0 : (y != 0) = false := bne_f hy0
                  have HYZ := Lib.hid (show chkC s t = 0 by rw [← HY.out, hy0])
                  have HN2 := Lib.hid (HNO.out.succ (by rw [HTX.out]; exact HYZ.out))
                  have r0 := rd.up hbw
                  obtain ⟨b1, o1, hD, _, hcD⟩ := r0.at_ hlt
                  have dD := hcD k hlt
                  have rcW := rd.card_at hlt
                  have rc := r0.card_at hlt
                  injection hD with hD
                  injection hD with e1 e2
                  subst e1 e2
                  obtain ⟨b9, o9, hD9, _, hcW⟩ := rd.at_ hlt
                  have dW := hcW k hlt
                  injection hD9 with hD9
                  injection hD9 with e1 e2
                  subst e1 e2
                  rw [HWK.out] at dD rc dW rcW
                  have cb := cell_later hbw hcell
                  have rb := hrb.up hbw
                  obtain ⟨v, hv⟩ : ∃ v, v = wrgI (pchL s (befL xs (cards hs) k) t) hs[k].xs s.size := ⟨_, rfl⟩
                  have HVP := Lib.hid (show vaP s xs (cards hs) ts k = decide (0 ≤ v) by
                    unfold vaP verV
                    rw [HTX.out, cards_getD hlt, if_pos HYZ.out, hv])
                  have HWR := Lib.hid (show ∀ X : World, X.cell? ⟨pb, po, none⟩ = some (.slice h s.size hc) → X.cell? ⟨b, off + k, none⟩ = some (.slice hs[k].a s.size hs[k].c) → Rd X X.heap.size 1 h s.size (ints (befL xs (cards hs) k)) → Rd X X.heap.size 1 hs[k].a s.size (ints hs[k].xs) → Calls Try.prog 134 #[.string s, .pointer (some ⟨pb, po, none⟩), .pointer (some ⟨b, off + k, none⟩), .string t] X fun e w' => e = .returned (.int .i64 v) ∧ Below X.heap.size X w' from fun X x1 x2 x3 x4 => by
                    rw [hv]
                    exact l05Wrong_any s t pb po h hc (befL xs (cards hs) k) b (off + k) hs[k].a hs[k].c hs[k].xs X HP.out HBL.out HWK.out x1 x2 x3 x4 (chk_zero HYZ.out).1)
                  have HDW := Lib.hid dW
                  have HRW := Lib.hid rcW
                  have l1 := fun x : Later wo => lat_cell x cb
                  have l2 := fun x : Later wo => lat_cell x dD
                  have l3 := fun x : Later wo => lat_cell x dK
                  have HDD := Lib.hid dD
                  have HOWN := Lib.hid hown
                  have HBW := Lib.hid hbw
                  have hbase := hbw.size
                  have HBS := Lib.hid (show befL xs (cards hs) (k + 1) = hs[k].xs from befL_succ hlt)
                  clear hcD hcW r0 hv dW rcW
                  by_cases hv0 : 0 ≤ v
                  · have HMS := Lib.hid (show colsWhere (vaP s xs (cards hs) ts) (k + 1) = M ++ [(k : Int)] by rw [colsWhere_yes (by rw [HVP.out]; exact decide_eq_true hv0), HM.out])
                    go_wp2_with fail
                    refine wp_region_later (by kernel_rfl) (by kernel_rfl) ?_
                    repeat (go_big_quiet_step ((go_at_call 134; exact lat_call (HWR.out _ (lat_cell _ cb) (lat_cell _ dD) (lat_rd _ rb) (lat_rd _ rc)))))
                    refine wpQuiet_nil ?_
                    intro wt hbt
                    have hown2 := own_bs HOWN.out hbt
                    have HBT := Lib.hid (bs HBW.out hbt)
                    have hbase2 : W.heap.size ≤ wt.heap.size := Nat.le_trans hbase hbt.size
                    clear l1 l2 l3 hbt rb rc cb dD dK hown hbw hbw0
                    go_wp2_with (at_builtin; refine wpList_ap rfl (.tmp 73) (.tmp 75) 24 rfl W.heap.size 2 i0 _ 1 8 Try.underlying24 hi hi0 hi1 hi2 rfl (by omega) G M.length cg (ints M) rfl wt hown2 1 #[.int .i64 (k : Int)] wt.heap.size rfl rfl rfl (by intro u hu; simp at hu; subst hu; rfl) (by omega) (by omega) (by omega) hbase2 ?_; intro g cap w6 hown6 hb6 hg6 _ _)
                    have HO := Lib.hid (show w6.ownsRow W.heap.size 2 1 (.slice (some ⟨g, 0, none⟩) (M.length + 1) cap) (M.length + 1) (ints (M ++ [(k : Int)])) by rw [ints_snoc]; exact hown6)
                    have HB6 := Lib.hid (HBT.out.trans hb6)
                    clear hown6 hb6 hg6 hown2
                    go_wp2
                    go_roundw
                    case rel =>
                      have P : VsR s xs hs ts W w6 (.slice (some ⟨g, 0, none⟩) (M.length + 1) cap) (.pointer (some ⟨b, off + k, none⟩)) (.int .i64 ((k : Int) + 1)) := ⟨k + 1, some ⟨g, 0, none⟩, cap, b, off + k, hs[k].a, hs[k].c, by omega, by go_num, by rw [HMS.out, List.length_append]; rfl, rfl, HDW.out, by rw [HBS.out]; exact HRW.out, by rw [HBS.out]; exact HWK.out, HN2.out, by rw [HMS.out, List.length_append]; exact HO.out, HB6.out⟩
                      first | exact P | exact ⟨_, P, rfl⟩ | exact ⟨_, _, P, rfl, rfl⟩ | exact ⟨_, _, _, P, rfl, rfl, rfl⟩ | exact ⟨_, _, _, _, P, rfl, rfl, rfl, rfl⟩ | exact ⟨_, _, _, _, _, P, rfl, rfl, rfl, rfl, rfl⟩ | exact ⟨_, _, _, _, _, _, P, rfl, rfl, rfl, rfl, rfl, rfl⟩ | exact ⟨_, _, _, _, _, _, _, P, rfl, rfl, rfl, rfl, rfl, rfl, rfl⟩ | exact ⟨_, _, _, _, _, _, _, _, P, rfl, rfl, rfl, rfl, rfl, rfl, rfl, rfl⟩
                    case measure => (simp [intOf]; try omega)
                  · have HMS := Lib.hid (show colsWhere (vaP s xs (cards hs) ts) (k + 1) = M by rw [colsWhere_no (by rw [HVP.out]; exact decide_eq_false hv0), HM.out])
                    go_wp2_with fail
                    refine wp_region_later (by kernel_rfl) (by kernel_rfl) ?_
                    repeat (go_big_quiet_step ((go_at_call 134; exact lat_call (HWR.out _ (lat_cell _ cb) (lat_cell _ dD) (lat_rd _ rb) (lat_rd _ rc)))))
                    refine wpQuiet_nil ?_
                    intro wt hbt
                    have HO := Lib.hid (own_bs HOWN.out hbt)
                    have HB6 := Lib.hid (bs HBW.out hbt)
                    clear l1 l2 l3 hbt rb rc cb dD dK hown hbw hbw0
                    go_wp2
                    go_roundw
                    case rel =>
                      have P : VsR s xs hs ts W wt (.slice G M.length cg) (.pointer (some ⟨b, off + k, none⟩)) (.int .i64 ((k : Int) + 1)) := ⟨k + 1, G, cg, b, off + k, hs[k].a, hs[k].c, by omega, by go_num, by rw [HMS.out], rfl, HDW.out, by rw [HBS.out]; exact HRW.out, by rw [HBS.out]; exact HWK.out, HN2.out, by rw [HMS.out]; exact HO.out, HB6.out⟩
                      first | exact P | exact ⟨_, P, rfl⟩ | exact ⟨_, _, P, rfl, rfl⟩ | exact ⟨_, _, _, P, rfl, rfl, rfl⟩ | exact ⟨_, _, _, _, P, rfl, rfl, rfl, rfl⟩ | exact ⟨_, _, _, _, _, P, rfl, rfl, rfl, rfl, rfl⟩ | exact ⟨_, _, _, _, _, _, P, rfl, rfl, rfl, rfl, rfl, rfl⟩ | exact ⟨_, _, _, _, _, _, _, P, rfl, rfl, rfl, rfl, rfl, rfl, rfl⟩ | exact ⟨_, _, _, _, _, _, _, _, P, rfl, rfl, rfl, rfl, rfl, rfl, rfl, rfl⟩
                    case measure => (simp [intOf]; try omega)
                · have y0 : (y != 0) = true := bne_t hy0
                  have HC := Lib.hid (show vaC s xs (cards hs) ts = y by rw [vaC_some HQ.out hKc HNO.out (by rw [HTX.out, ← HY.out]; exact hy0), HTX.out, HY.out])
                  have HR := Lib.hid (vaR_1 (show ¬ vaC s xs (cards hs) ts = 0 by rw [HC.out]; exact hy0))
                  go_wp2
                  go_ret2
                  rw [HC.out, HR.out]
                  exact ⟨none, 0, rfl, World.ownsRow_nil _ _ _ _, T0.trans (hbw.mono T0.size)⟩
              · obtain rfl : k = hs.length := by omega
                have HZ2 := Lib.hid (vaC_none HQ.out (by rw [cards_length]; exact hno))
                have HR2 := Lib.hid (vaR_0 HZ2.out)
                rw [cards_length] at HR2
                go_wp2
                go_ret2
                rw [HZ2.out, HR2.out]
                exact ⟨G, cg, rfl, own_base hown T0.size, T0.trans (hbw.mono T0.size)⟩
          · have w0 : (((hs[0]'h0).xs.length : Int) != (s.size : Int)) = true := bne_t (by omega)
            obtain ⟨hq1, hq2⟩ := HBAD.out 2 (pg_w HDK.out.symm HZ0.out (by rw [cards_length]; exact h0) (by rw [cards_at hs 0 (by rw [cards_length]; exact h0)]; exact hw)) (by omega)
            have HQ1 := Lib.hid hq1
            have HQ2 := Lib.hid hq2
            clear hq1 hq2 hw
            go_wp2
            go_ret2
            rw [HQ1.out, HQ2.out]
            exact ⟨none, 0, rfl, World.ownsRow_nil _ _ _ _, bs T0 B2⟩
        · have p1 : ¬ (0 : Int) < (hs.length : Int) := by omega
          have HQ := Lib.hid (HGOH.out (fun h => absurd h h0) _ rfl)
          clear HGOH
          have HV := Lib.hid (vaQ_0 HQ.out)
          have HXL := Lib.hid (l5C_0 HZ0.out)
          have hrow : (w2.alloc (.cells #[] 2)).ownsRow W.heap.size 2 1 (.slice (some ⟨w2.heap.size, 0, none⟩) 0 0) 0 [] := own_lit w2 #[] 0 rfl B2.size (by omega) rfl
          have HROW := Lib.hid hrow
          have B3 := ba B2 (.cells #[] 2)
          have HB3 := Lib.hid B3
          clear hrow B3
          go_wp2
          go_loopw [10, 11, 12, 13] (fun _ q11 q12 q13 wr => VsR s xs hs ts W wr q11 q12 q13) (fun _ _ _ q _ => hs.length - (intOf q).toNat)
          case atStart =>
            have e := HXL.out.2.2
            exact ⟨0, some ⟨w2.heap.size, 0, none⟩, 0, w.heap.size, 0, A, c, Nat.zero_le _, rfl, rfl, rfl, by rw [← e]; exact k5, by rw [← e]; exact ra, e, NoK.zero _ _, HROW.out, HB3.out⟩
          case round =>
            obtain ⟨wo, rfl⟩ : ∃ wo : World, wo = wr := ⟨_, rfl⟩
            obtain ⟨k, G, cg, pb, po, h, hc, hkn, rfl, rfl, rfl, hcell, hrb, hbl, hno, hown, hbw⟩ := hrel
            by_cases hlt : k < hs.length
            · omega
            · obtain rfl : k = hs.length := by omega
              have HZ2 := Lib.hid (vaC_none HQ.out (by rw [cards_length]; exact hno))
              have HR2 := Lib.hid (vaR_0 HZ2.out)
              rw [cards_length] at HR2
              go_wp2
              go_ret2
              rw [HZ2.out, HR2.out]
              exact ⟨G, cg, rfl, own_base hown T0.size, T0.trans (hbw.mono T0.size)⟩
      · have m1 : ((ts.length : Int) != (hs.length : Int)) = true := bne_t (by omega)
        obtain ⟨hq1, hq2⟩ := HBAD.out 2 (pg_m HDK.out.symm HZ0.out (by rw [cards_length]; exact hm)) (by omega)
        have HQ1 := Lib.hid hq1
        have HQ2 := Lib.hid hq2
        clear hq1 hq2
        go_wp2
        go_ret2
        rw [HQ1.out, HQ2.out]
        exact ⟨none, 0, rfl, World.ownsRow_nil _ _ _ _, bs T0 B2⟩
    · have n0 : (z == 0) = false := beq_f hz0
      have n1 : (z != 0) = true := bne_t hz0
      obtain ⟨hq1, hq2⟩ := HBAD.out z (by rw [pg_z HDK.out.symm (by rw [← HZ.out]; exact hz0), HZ.out]) hz0
      have HQ1 := Lib.hid hq1
      have HQ2 := Lib.hid hq2
      clear hq1 hq2
      go_wp2
      go_ret2
      rw [HQ1.out, HQ2.out]
      exact ⟨none, 0, rfl, World.ownsRow_nil _ _ _ _, bs T0 B2⟩
end Go.Proofs.Ythbgdnjlmaadjaa
