/- VerifyAll: the plain result; in the reference. VerifyAll, in the program. -/
import Derived.Test.YtkmejkeanmjfbaaGreatDoorKd17
import Derived.Test.YtkmejkeanmjfbaaGreatDoorKd7
import Derived.Test.YtkmejkeanmjfbaaGreatDoorKd27
import Derived.Deep.RegionLaw
import Derived.Deep.DeepCutAuto
/-! ### VerAllAll -/
/-! ### VerifyAll: the plain result; in the reference. -/
namespace Go.Proofs.YtkmejkeanmjfbaaGreatDoor
open Go.RowKit

/-! ### plain -/
def befL (xs : List Int) (L : List (List Int)) (i : Nat) : List Int := if i = 0 then xs else L.getD (i - 1) []
def txt (ts : List ByteArray) (i : Nat) : ByteArray := ts.getD i ⟨#[]⟩
def vaP (s : ByteArray) (xs : List Int) (L : List (List Int)) (ts : List ByteArray) (i : Nat) : Bool := decide (0 ≤ verV s (befL xs L i) (txt ts i) (L.getD i []))
def vaO (s : ByteArray) (ts : List ByteArray) (i : Nat) : Option Int := if chkC s (txt ts i) = 0 then none else some (chkC s (txt ts i))
def l5C (s : ByteArray) (xs : List Int) : Int := if progB s = true ∧ cardOk xs = true then (if xs.length = s.size then 0 else 2) else 1
def vaQ (s : ByteArray) (xs : List Int) (L : List (List Int)) (m : Nat) : Int := if pgC s (deckOk L) (xs :: L) = 0 then (if m = L.length then 0 else 2) else pgC s (deckOk L) (xs :: L)
def vaC (s : ByteArray) (xs : List Int) (L : List (List Int)) (ts : List ByteArray) : Int := if vaQ s xs L ts.length = 0 then (((List.range L.length).findSome? (vaO s ts)).getD 0) else vaQ s xs L ts.length
def vaR (s : ByteArray) (xs : List Int) (L : List (List Int)) (ts : List ByteArray) : List Int := if vaC s xs L ts = 0 then colsWhere (vaP s xs L ts) L.length else []
theorem vaR_0 {s : ByteArray} {xs : List Int} {L : List (List Int)} {ts : List ByteArray} (h : vaC s xs L ts = 0) : vaR s xs L ts = colsWhere (vaP s xs L ts) L.length := by unfold vaR; rw [if_pos h]
theorem vaR_1 {s : ByteArray} {xs : List Int} {L : List (List Int)} {ts : List ByteArray} (h : ¬ vaC s xs L ts = 0) : vaR s xs L ts = [] := by unfold vaR; rw [if_neg h]
theorem vaC_q {s : ByteArray} {xs : List Int} {L : List (List Int)} {ts : List ByteArray} (h : ¬ vaQ s xs L ts.length = 0) : vaC s xs L ts = vaQ s xs L ts.length := by unfold vaC; rw [if_neg h]
def NoK (s : ByteArray) (ts : List ByteArray) (k : Nat) : Prop := ∀ j, j < k → chkC s (txt ts j) = 0
theorem NoK.zero (s : ByteArray) (ts : List ByteArray) : NoK s ts 0 := fun j h => absurd h (Nat.not_lt_zero j)
theorem NoK.succ {s : ByteArray} {ts : List ByteArray} {k : Nat} (h : NoK s ts k) (hk : chkC s (txt ts k) = 0) : NoK s ts (k + 1) := by
  intro j hj
  rcases Nat.lt_succ_iff_lt_or_eq.1 hj with hj | rfl
  · exact h j hj
  · exact hk
theorem vaC_some {s : ByteArray} {xs : List Int} {L : List (List Int)} {ts : List ByteArray} {k : Nat} (hq : vaQ s xs L ts.length = 0) (hk : k < L.length) (hno : NoK s ts k) (hc : ¬ chkC s (txt ts k) = 0) : vaC s xs L ts = chkC s (txt ts k) := by
  unfold vaC
  rw [if_pos hq, ff_some hk (fun j hj => by unfold vaO; rw [if_pos (hno j hj)]) (show vaO s ts k = some (chkC s (txt ts k)) by unfold vaO; rw [if_neg hc])]
  rfl
theorem vaC_none {s : ByteArray} {xs : List Int} {L : List (List Int)} {ts : List ByteArray} (hq : vaQ s xs L ts.length = 0) (hno : NoK s ts L.length) : vaC s xs L ts = 0 := by
  unfold vaC
  have : (List.range L.length).findSome? (vaO s ts) = none := by
    rw [List.findSome?_eq_none_iff]
    intro j hj
    unfold vaO
    rw [if_pos (hno j (List.mem_range.1 hj))]
  rw [if_pos hq, this]
  rfl
theorem deck_all {L : List (List Int)} (h : deckOk L = true) : L.all cardOk = true := by
  refine List.all_eq_true.2 fun x hx => ?_
  obtain ⟨k, hk, rfl⟩ := List.mem_iff_getElem.1 hx
  exact (deckOk_card h hk).1
section
variable {s : ByteArray} {xs : List Int} {L : List (List Int)} {m : Nat}
theorem pg_bad (h : deckOk L = false) : vaQ s xs L m = 1 := by
  have : pgC s (deckOk L) (xs :: L) = 1 := by unfold pgC; rw [if_neg (by simp [h])]
  unfold vaQ
  rw [this, if_neg (by omega)]
theorem pg_z (h : deckOk L = true) (hz : ¬ l5C s xs = 0) : vaQ s xs L m = l5C s xs := by
  have : pgC s (deckOk L) (xs :: L) = l5C s xs := by
    unfold pgC l5C
    unfold l5C at hz
    by_cases h1 : progB s = true ∧ cardOk xs = true
    · rw [if_pos h1] at hz ⊢
      rw [if_pos ⟨h1.1, h, by rw [List.all_cons, h1.2, deck_all h]; rfl⟩]
      by_cases h2 : xs.length = s.size
      · rw [if_pos h2] at hz; omega
      · rw [if_neg h2, if_neg (by unfold widB; simp [h2])]
    · rw [if_neg h1, if_neg]
      rintro ⟨g1, _, g3⟩
      rw [List.all_cons, Bool.and_eq_true] at g3
      exact h1 ⟨g1, g3.1⟩
  unfold vaQ
  rw [this, if_neg hz]
theorem l5C_0 (h : l5C s xs = 0) : progB s = true ∧ cardOk xs = true ∧ xs.length = s.size := by
  unfold l5C at h
  split at h
  · rename_i h1
    split at h
    · rename_i h2
      exact ⟨h1.1, h1.2, h2⟩
    · omega
  · omega
theorem pg_two (h : deckOk L = true) (hz : l5C s xs = 0) : pgC s (deckOk L) (xs :: L) = if L.all (widB s) = true then 0 else 2 := by
  obtain ⟨h1, h2, h3⟩ := l5C_0 hz
  unfold pgC
  rw [if_pos ⟨h1, h, by rw [List.all_cons, h2, deck_all h]; rfl⟩]
  have : (xs :: L).all (widB s) = L.all (widB s) := by rw [List.all_cons]; unfold widB; simp [h3]
  rw [this]
theorem pg_m (h : deckOk L = true) (hz : l5C s xs = 0) (hm : ¬ m = L.length) : vaQ s xs L m = 2 := by
  unfold vaQ
  rw [pg_two h hz]
  by_cases hw : L.all (widB s) = true
  · rw [if_pos hw, if_pos rfl, if_neg hm]
  · rw [if_neg hw, if_neg (by omega)]
theorem pg_w (h : deckOk L = true) (hz : l5C s xs = 0) (h0 : 0 < L.length) (hw : ¬ (L[0]'h0).length = s.size) : vaQ s xs L m = 2 := by
  have : L.all (widB s) = false := al_bad h0 (by unfold widB; simp [hw])
  unfold vaQ
  rw [pg_two h hz, this]
  simp
theorem pg_0 (h : deckOk L = true) (hz : l5C s xs = 0) (hm : m = L.length) (hw : ∀ (h0 : 0 < L.length), (L[0]'h0).length = s.size) : vaQ s xs L m = 0 ∧ ∀ k (hk : k < L.length), L[k].length = s.size := by
  have key : ∀ k (hk : k < L.length), L[k].length = s.size := fun k hk => by
    rw [(deckOk_card h hk).2, ← hw (by omega), (deckOk_card h (show 0 < L.length by omega)).2]
  refine ⟨?_, key⟩
  have : L.all (widB s) = true := by
    refine List.all_eq_true.2 fun x hx => ?_
    obtain ⟨k, hk, rfl⟩ := List.mem_iff_getElem.1 hx
    unfold widB
    simp [key k hk]
  unfold vaQ
  rw [pg_two h hz, if_pos this, if_pos rfl, if_pos hm]
theorem vaQ_0 (h : vaQ s xs L m = 0) : deckOk L = true ∧ l5C s xs = 0 ∧ m = L.length ∧ ∀ k (hk : k < L.length), L[k].length = s.size := by
  cases hd : deckOk L with
  | false => rw [pg_bad hd] at h; omega
  | true =>
    by_cases hz : l5C s xs = 0
    · by_cases hm : m = L.length
      · refine ⟨rfl, hz, hm, ?_⟩
        by_cases h0 : 0 < L.length
        · by_cases hw : (L[0]'h0).length = s.size
          · exact (pg_0 hd hz hm fun _ => hw).2
          · rw [pg_w hd hz h0 hw] at h; omega
        · intro k hk
          omega
      · rw [pg_m hd hz hm] at h; omega
    · rw [pg_z hd hz] at h; exact absurd h hz
end
theorem vaR_length (s : ByteArray) (xs : List Int) (L : List (List Int)) (ts : List ByteArray) : (vaR s xs L ts).length ≤ 40 := by
  unfold vaR
  split
  · rename_i h
    have hq : vaQ s xs L ts.length = 0 := by
      by_cases hq : vaQ s xs L ts.length = 0
      · exact hq
      · rw [vaC_q hq] at h; exact absurd h hq
    have h1 := colsWhere_le (vaP s xs L ts) L.length
    have h2 := deckOk_len (vaQ_0 hq).1
    omega
  · simp
theorem befL_succ {xs : List Int} {hs : List Hd} {k : Nat} (h : k < hs.length) : befL xs (cards hs) (k + 1) = hs[k].xs := by
  unfold befL
  rw [if_neg (by omega), Nat.add_sub_cancel, List.getD_eq_getElem?_getD, cards_get hs k h]
  rfl
theorem txt_at {ts : List ByteArray} {k : Nat} (h : k < ts.length) : txt ts k = ts[k] := by simp [txt, List.getD, List.getElem?_eq_getElem h]
theorem cards_getD {hs : List Hd} {k : Nat} (h : k < hs.length) : (cards hs).getD k [] = hs[k].xs := by rw [List.getD_eq_getElem?_getD, cards_get hs k h]; rfl

theorem l05Code_any (s : ByteArray) (p o : Nat) (A : Option Addr) (c : Nat) (xs : List Int) (w : World) (hc : w.cell? ⟨p, o, none⟩ = some (.slice A xs.length c)) (ha : Rd w w.heap.size 1 A xs.length (ints xs)) (hl : xs.length ≤ 1048576) (hs : s.size ≤ 1048576) :
    Calls Tryz.prog 33 #[.string s, .pointer (some ⟨p, o, none⟩)] w fun e w' => e = .returned (.int .i64 (l5C s xs)) ∧ Below w.heap.size w w' := by
  cases hp : progB s
  · have HC := Lib.hid (show l5C s xs = 1 by unfold l5C; rw [if_neg (by simp [hp])])
    have HP := Lib.hid hp
    clear hp
    go_enter Tryz.func33, Tryz.ntmps33
    go_wp2_with fail
    refine (l05Ok_any s _ hs).mono ?_
    rw [HP.out]
    rintro e w1 ⟨rfl, rfl⟩
    go_wp2
    go_ret
    exact ⟨ret_int HC.out.symm, b0 _⟩
  · have HP := Lib.hid hp
    clear hp
    have HOK := Lib.hid (l02Ok_any p o A c xs w hc ha hl)
    cases hk : cardOk xs
    · have HC := Lib.hid (show l5C s xs = 1 by unfold l5C; rw [if_neg (by simp [hk])])
      rw [hk] at HOK
      clear hk
      go_enter Tryz.func33, Tryz.ntmps33
      go_wp2_with fail
      refine (l05Ok_any s _ hs).mono ?_
      rw [HP.out]
      rintro e w1 ⟨rfl, rfl⟩
      go_wp2_with fail
      refine HOK.out.mono ?_
      rintro e w2 ⟨rfl, hb2⟩
      go_wp2
      go_ret
      exact ⟨ret_int HC.out.symm, hb2⟩
    · rw [hk] at HOK
      by_cases hw : xs.length = s.size
      · have HC := Lib.hid (show l5C s xs = 0 by unfold l5C; rw [if_pos ⟨HP.out, hk⟩, if_pos hw])
        have i1 : ((xs.length : Int) != (s.size : Int)) = false := bne_f (by omega)
        clear hk hw
        go_enter Tryz.func33, Tryz.ntmps33
        go_wp2_with fail
        refine (l05Ok_any s _ hs).mono ?_
        rw [HP.out]
        rintro e w1 ⟨rfl, rfl⟩
        go_wp2_with fail
        refine HOK.out.mono ?_
        rintro e w2 ⟨rfl, hb2⟩
        have hc2 := cell_later hb2 hc
        go_wp2
        go_ret
        exact ⟨ret_int HC.out.symm, hb2⟩
      · have HC := Lib.hid (show l5C s xs = 2 by unfold l5C; rw [if_pos ⟨HP.out, hk⟩, if_neg hw])
        have i1 : ((xs.length : Int) != (s.size : Int)) = true := bne_t (by omega)
        clear hk hw
        go_enter Tryz.func33, Tryz.ntmps33
        go_wp2_with fail
        refine (l05Ok_any s _ hs).mono ?_
        rw [HP.out]
        rintro e w1 ⟨rfl, rfl⟩
        go_wp2_with fail
        refine HOK.out.mono ?_
        rintro e w2 ⟨rfl, hb2⟩
        have hc2 := cell_later hb2 hc
        go_wp2
        go_ret
        exact ⟨ret_int HC.out.symm, hb2⟩

/-- Behind k cards. -/
def VsR (s : ByteArray) (xs : List Int) (hs : List Hd) (ts : List ByteArray) (W wr : World) (q11 q12 q13 : Value) : Prop := ∃ (k : Nat) (G : Option Addr) (cg pb po : Nat) (h : Option Addr) (hc : Nat), k ≤ hs.length ∧ q13 = .int .i64 k ∧ q11 = .slice G (colsWhere (vaP s xs (cards hs) ts) k).length cg ∧
  q12 = .pointer (some ⟨pb, po, none⟩) ∧ W.cell? ⟨pb, po, none⟩ = some (.slice h s.size hc) ∧ Rd W W.heap.size 1 h s.size (ints (befL xs (cards hs) k)) ∧ (befL xs (cards hs) k).length = s.size ∧ NoK s ts k ∧
  wr.ownsRow W.heap.size 2 1 (.slice G (colsWhere (vaP s xs (cards hs) ts) k).length cg) (colsWhere (vaP s xs (cards hs) ts) k).length (ints (colsWhere (vaP s xs (cards hs) ts) k)) ∧ Below W.heap.size W wr
set_option maxRecDepth 100000 in
set_option maxHeartbeats 8000000 in
theorem spVerifyAll_any (s : ByteArray) (A : Option Addr) (c : Nat) (xs : List Int) (D : Option Addr) (cd : Nat) (hs : List Hd) (K : Option Addr) (ck : Nat) (ts : List ByteArray) (w : World) (hs0 : s.size ≤ 1048576)
    (ha : Rd w w.heap.size 1 A xs.length (ints xs)) (hl : xs.length ≤ 1048576) (_hc : xs.length ≤ c) (hd : RdD w w.heap.size D hs) (hl2 : hs.length + tot hs ≤ 1048576) (_hcd : hs.length ≤ cd) (hk : Rd w w.heap.size 1 K ts.length (strv ts)) (hl3 : ts.length ≤ 1048576) (ht : ∀ t ∈ ts, t.size ≤ 1048576) :
    Calls Tryz.prog 10 #[.string s, .agg #[.slice A xs.length c], .slice D hs.length cd, .slice K ts.length ck] w fun e w' => ∃ B d, e = .returned (.tuple #[.slice B (vaR s xs (cards hs) ts).length d, .int .i64 (vaC s xs (cards hs) ts)]) ∧
      w'.ownsRow w.heap.size 2 1 (.slice B (vaR s xs (cards hs) ts).length d) (vaR s xs (cards hs) ts).length (ints (vaR s xs (cards hs) ts)) ∧ Below w.heap.size w w' := by
  obtain ⟨i0, hi, hi0, hi1, hi2⟩ := info_parts info_i64
  have T0 := ba (b0 w) (.cells #[.slice A xs.length c] 26)
  have k5 := cell_new (w := w) (cs := #[.slice A xs.length c]) (e := 26) (j := 0) (H := w.heap.size) rfl rfl
  obtain ⟨W, hW⟩ : ∃ W, W = w.alloc (.cells #[.slice A xs.length c] 26) := ⟨_, rfl⟩
  have ra := ha.up T0
  have rd := hd.up T0
  have rk := hk.up T0
  rw [← hW] at T0 k5 ra rd rk
  have HW := Lib.hid hW
  have HT := Lib.hid ht
  obtain ⟨z, hz⟩ : ∃ z, z = l5C s xs := ⟨_, rfl⟩
  have HZ := Lib.hid hz
  obtain ⟨dk, hdk⟩ : ∃ dk, dk = deckOk (cards hs) := ⟨_, rfl⟩
  have HDK := Lib.hid hdk
  clear hW ha hd hk ht hz hdk
  go_enter Tryz.func10, Tryz.ntmps10
  go_wp2_with fail
  rw [← HW.out]
  refine (l05Code_any s w.heap.size 0 A c xs _ k5 ra hl hs0).mono ?_
  rw [← HZ.out]
  rintro e w1 ⟨rfl, hb1⟩
  have rd1 := rd.up hb1
  go_wp2_with fail
  refine (l02Deck_any D cd hs _ rd1 hl2).mono ?_
  rw [← HDK.out]
  rintro e w2 ⟨rfl, hb2⟩
  have B2 := bs hb1 hb2
  clear hb1 hb2 rd1
  have bad : ∀ q : Int, vaQ s xs (cards hs) ts.length = q → ¬ q = 0 → vaC s xs (cards hs) ts = q ∧ vaR s xs (cards hs) ts = [] := fun q h1 h2 => by
    have h3 : vaC s xs (cards hs) ts = q := by rw [vaC_q (by rw [h1]; exact h2), h1]
    exact ⟨h3, vaR_1 (by rw [h3]; exact h2)⟩
  have HBAD := Lib.hid bad
  clear bad
  cases dk
  · obtain ⟨hq1, hq2⟩ := HBAD.out 1 (pg_bad HDK.out.symm) (by omega)
    have HQ1 := Lib.hid hq1
    have HQ2 := Lib.hid hq2
    clear hq1 hq2
    go_wp2
    go_ret2
    rw [HQ1.out, HQ2.out]
    exact ⟨none, 0, rfl, World.ownsRow_nil _ _ _ _, bs T0 B2⟩
  · by_cases hz0 : z = 0
    · have HZ0 := Lib.hid (show l5C s xs = 0 by rw [← HZ.out, hz0])
      have n0 : (z == 0) = true := beq_t hz0
      have n1 : (z != 0) = false := bne_f hz0
      by_cases hm : ts.length = hs.length
      · have m1 : ((ts.length : Int) != (hs.length : Int)) = false := bne_f (by omega)
        have HMC := Lib.hid (show ts.length = (cards hs).length by rw [cards_length, hm])
        have HGO : (∀ (h0 : 0 < hs.length), (hs[0]'h0).xs.length = s.size) → (∀ (q : Value), q = .int .i64 z → vaQ s xs (cards hs) ts.length = 0) := fun hw q _ => (pg_0 HDK.out.symm HZ0.out HMC.out (fun h0 => by
          rw [cards_length] at h0
          rw [cards_at hs 0 (by rw [cards_length]; exact h0)]
          exact hw h0)).1
        have HGOH := Lib.hid HGO
        clear HGO
        have tail : vaQ s xs (cards hs) ts.length = 0 → True := fun _ => trivial
        clear tail
        by_cases h0 : 0 < hs.length
        · have r2 := rd.up B2
          obtain ⟨b, off, hD, _, hcl⟩ := r2.at_ h0
          have d1 := hcl 0 h0
          rw [Nat.add_zero] at d1
          subst hD
          clear hcl r2
          have p1 : (0 : Int) < (hs.length : Int) := by omega
          by_cases hw : (hs[0]'h0).xs.length = s.size
          · have w0 : (((hs[0]'h0).xs.length : Int) != (s.size : Int)) = false := bne_f (by omega)
            have HQ := Lib.hid (HGOH.out (fun _ => hw) _ rfl)
            have HWX := Lib.hid (show True from trivial)
            clear hw
            clear HGOH
            have HV := Lib.hid (vaQ_0 HQ.out)
            have HXL := Lib.hid (l5C_0 HZ0.out)
            have hrow : (w2.alloc (.cells #[] 2)).ownsRow W.heap.size 2 1 (.slice (some ⟨w2.heap.size, 0, none⟩) 0 0) 0 [] := own_lit w2 #[] 0 rfl B2.size (by omega) rfl
            have HROW := Lib.hid hrow
            have B3 := ba B2 (.cells #[] 2)
            have HB3 := Lib.hid B3
            clear hrow B3
            go_wp2
            go_loopw [10, 11, 12, 13] (fun _ q11 q12 q13 wr => VsR s xs hs ts W wr q11 q12 q13) (fun _ _ _ q _ => hs.length - (intOf q).toNat)
            case atStart =>
              have e := HXL.out.2.2
              exact ⟨0, some ⟨w2.heap.size, 0, none⟩, 0, w.heap.size, 0, A, c, Nat.zero_le _, rfl, rfl, rfl, by rw [← e]; exact k5, by rw [← e]; exact ra, e, NoK.zero _ _, HROW.out, HB3.out⟩
            case round =>
              obtain ⟨wo, rfl⟩ : ∃ wo : World, wo = wr := ⟨_, rfl⟩
              obtain ⟨k, G, cg, pb, po, h, hc, hkn, rfl, rfl, rfl, hcell, hrb, hbl, hno, hown, hbw⟩ := hrel
              by_cases hlt : k < hs.length
              · have i1 : (k : Int) < (hs.length : Int) := by omega
                have hkt : k < ts.length := by omega
                have i2 : (k : Int) < (ts.length : Int) := by omega
                obtain ⟨bK, oK, hKe, _, hcK⟩ := (rk.up hbw).at_ hkt
                have dK := hcK k _ (strv_get ts k hkt)
                subst hKe
                have hbw0 := hbw
                obtain ⟨M, hM⟩ : ∃ M, M = colsWhere (vaP s xs (cards hs) ts) k := ⟨_, rfl⟩
                have hMk : M.length ≤ k := by rw [hM]; exact colsWhere_le _ _
                rw [← hM] at hown ⊢
                have HM := Lib.hid hM
                have HNO := Lib.hid hno
                have HBL := Lib.hid hbl
                have HTX := Lib.hid (txt_at hkt)
                have HTS := Lib.hid (HT.out ts[k] (List.getElem_mem hkt))
                have HP := Lib.hid HXL.out.1
                obtain ⟨t, ht⟩ : ∃ t, t = ts[k] := ⟨_, rfl⟩
                rw [← ht] at dK HTX HTS
                have hKc : k < (cards hs).length := by rw [cards_length]; exact hlt
                have HWK := Lib.hid (show hs[k].xs.length = s.size by rw [← cards_at hs k hKc]; exact HV.out.2.2.2 k hKc)
                obtain ⟨y, hy⟩ : ∃ y, y = chkC s t := ⟨_, rfl⟩
                have HY := Lib.hid hy
                clear hcK hno hbl hM ht hy
                go_wp2_with fail
                refine (l05Check_any s t _ HP.out HTS.out).mono ?_
                rw [← HY.out]
                rintro e w3 ⟨rfl, rfl⟩
                by_cases hy0 : y = 0
                · have y0 : (y != 0) = false := bne_f hy0
                  have HYZ := Lib.hid (show chkC s t = 0 by rw [← HY.out, hy0])
                  have HN2 := Lib.hid (HNO.out.succ (by rw [HTX.out]; exact HYZ.out))
                  have r0 := rd.up hbw
                  obtain ⟨b1, o1, hD, _, hcD⟩ := r0.at_ hlt
                  have dD := hcD k hlt
                  have rcW := rd.card_at hlt
                  have rc := r0.card_at hlt
                  injection hD with hD
                  injection hD with e1 e2
                  subst e1 e2
                  obtain ⟨b9, o9, hD9, _, hcW⟩ := rd.at_ hlt
                  have dW := hcW k hlt
                  injection hD9 with hD9
                  injection hD9 with e1 e2
                  subst e1 e2
                  rw [HWK.out] at dD rc dW rcW
                  have cb := cell_later hbw hcell
                  have rb := hrb.up hbw
                  obtain ⟨v, hv⟩ : ∃ v, v = wrgI (pchL s (befL xs (cards hs) k) t) hs[k].xs s.size := ⟨_, rfl⟩
                  have HVP := Lib.hid (show vaP s xs (cards hs) ts k = decide (0 ≤ v) by
                    unfold vaP verV
                    rw [HTX.out, cards_getD hlt, if_pos HYZ.out, hv])
                  have HWR := Lib.hid (show ∀ X : World, X.cell? ⟨pb, po, none⟩ = some (.slice h s.size hc) → X.cell? ⟨b, off + k, none⟩ = some (.slice hs[k].a s.size hs[k].c) → Rd X X.heap.size 1 h s.size (ints (befL xs (cards hs) k)) → Rd X X.heap.size 1 hs[k].a s.size (ints hs[k].xs) → Calls Tryz.prog 40 #[.string s, .pointer (some ⟨pb, po, none⟩), .pointer (some ⟨b, off + k, none⟩), .string t] X fun e w' => e = .returned (.int .i64 v) ∧ Below X.heap.size X w' from fun X x1 x2 x3 x4 => by
                    rw [hv]
                    exact l05Wrong_any s t pb po h hc (befL xs (cards hs) k) b (off + k) hs[k].a hs[k].c hs[k].xs X HP.out HBL.out HWK.out x1 x2 x3 x4 (chk_zero HYZ.out).1)
                  have HDW := Lib.hid dW
                  have HRW := Lib.hid rcW
                  have l1 := fun x : Later wo => lat_cell x cb
                  have l2 := fun x : Later wo => lat_cell x dD
                  have l3 := fun x : Later wo => lat_cell x dK
                  have HDD := Lib.hid dD
                  have HOWN := Lib.hid hown
                  have HBW := Lib.hid hbw
                  have hbase := hbw.size
                  have HBS := Lib.hid (show befL xs (cards hs) (k + 1) = hs[k].xs from befL_succ hlt)
                  clear hcD hcW r0 hv dW rcW
                  by_cases hv0 : 0 ≤ v
                  · have HMS := Lib.hid (show colsWhere (vaP s xs (cards hs) ts) (k + 1) = M ++ [(k : Int)] by rw [colsWhere_yes (by rw [HVP.out]; exact decide_eq_true hv0), HM.out])
                    go_wp2_with fail
                    refine wp_region_later (by kernel_rfl) (by kernel_rfl) ?_
                    repeat (go_big_quiet_step ((go_at_call 40; exact lat_call (HWR.out _ (lat_cell _ cb) (lat_cell _ dD) (lat_rd _ rb) (lat_rd _ rc)))))
                    refine wpQuiet_nil ?_
                    intro wt hbt
                    have hown2 := own_bs HOWN.out hbt
                    have HBT := Lib.hid (bs HBW.out hbt)
                    have hbase2 : W.heap.size ≤ wt.heap.size := Nat.le_trans hbase hbt.size
                    clear l1 l2 l3 hbt rb rc cb dD dK hown hbw hbw0
                    go_wp2_with (at_builtin; refine wpList_ap rfl (.tmp 73) (.tmp 75) 24 rfl W.heap.size 2 i0 _ 1 8 Tryz.underlying24 hi hi0 hi1 hi2 rfl (by omega) G M.length cg (ints M) rfl wt hown2 1 #[.int .i64 (k : Int)] wt.heap.size rfl rfl rfl (by intro u hu; simp at hu; subst hu; rfl) (by omega) (by omega) (by omega) hbase2 ?_; intro g cap w6 hown6 hb6 hg6 _ _)
                    have HO := Lib.hid (show w6.ownsRow W.heap.size 2 1 (.slice (some ⟨g, 0, none⟩) (M.length + 1) cap) (M.length + 1) (ints (M ++ [(k : Int)])) by rw [ints_snoc]; exact hown6)
                    have HB6 := Lib.hid (HBT.out.trans hb6)
                    clear hown6 hb6 hg6 hown2
                    go_wp2
                    go_roundw
                    case rel =>
                      have P : VsR s xs hs ts W w6 (.slice (some ⟨g, 0, none⟩) (M.length + 1) cap) (.pointer (some ⟨b, off + k, none⟩)) (.int .i64 ((k : Int) + 1)) := ⟨k + 1, some ⟨g, 0, none⟩, cap, b, off + k, hs[k].a, hs[k].c, by omega, by go_num, by rw [HMS.out, List.length_append]; rfl, rfl, HDW.out, by rw [HBS.out]; exact HRW.out, by rw [HBS.out]; exact HWK.out, HN2.out, by rw [HMS.out, List.length_append]; exact HO.out, HB6.out⟩
                      first | exact P | exact ⟨_, P, rfl⟩ | exact ⟨_, _, P, rfl, rfl⟩ | exact ⟨_, _, _, P, rfl, rfl, rfl⟩ | exact ⟨_, _, _, _, P, rfl, rfl, rfl, rfl⟩ | exact ⟨_, _, _, _, _, P, rfl, rfl, rfl, rfl, rfl⟩ | exact ⟨_, _, _, _, _, _, P, rfl, rfl, rfl, rfl, rfl, rfl⟩ | exact ⟨_, _, _, _, _, _, _, P, rfl, rfl, rfl, rfl, rfl, rfl, rfl⟩ | exact ⟨_, _, _, _, _, _, _, _, P, rfl, rfl, rfl, rfl, rfl, rfl, rfl, rfl⟩
                    case measure => (simp [intOf]; try omega)
                  · have HMS := Lib.hid (show colsWhere (vaP s xs (cards hs) ts) (k + 1) = M by rw [colsWhere_no (by rw [HVP.out]; exact decide_eq_false hv0), HM.out])
                    go_wp2_with fail
                    refine wp_region_later (by kernel_rfl) (by kernel_rfl) ?_
                    repeat (go_big_quiet_step ((go_at_call 40; exact lat_call (HWR.out _ (lat_cell _ cb) (lat_cell _ dD) (lat_rd _ rb) (lat_rd _ rc)))))
                    refine wpQuiet_nil ?_
                    intro wt hbt
                    have HO := Lib.hid (own_bs HOWN.out hbt)
                    have HB6 := Lib.hid (bs HBW.out hbt)
                    clear l1 l2 l3 hbt rb rc cb dD dK hown hbw hbw0
                    go_wp2
                    go_roundw
                    case rel =>
                      have P : VsR s xs hs ts W wt (.slice G M.length cg) (.pointer (some ⟨b, off + k, none⟩)) (.int .i64 ((k : Int) + 1)) := ⟨k + 1, G, cg, b, off + k, hs[k].a, hs[k].c, by omega, by go_num, by rw [HMS.out], rfl, HDW.out, by rw [HBS.out]; exact HRW.out, by rw [HBS.out]; exact HWK.out, HN2.out, by rw [HMS.out]; exact HO.out, HB6.out⟩
                      first | exact P | exact ⟨_, P, rfl⟩ | exact ⟨_, _, P, rfl, rfl⟩ | exact ⟨_, _, _, P, rfl, rfl, rfl⟩ | exact ⟨_, _, _, _, P, rfl, rfl, rfl, rfl⟩ | exact ⟨_, _, _, _, _, P, rfl, rfl, rfl, rfl, rfl⟩ | exact ⟨_, _, _, _, _, _, P, rfl, rfl, rfl, rfl, rfl, rfl⟩ | exact ⟨_, _, _, _, _, _, _, P, rfl, rfl, rfl, rfl, rfl, rfl, rfl⟩ | exact ⟨_, _, _, _, _, _, _, _, P, rfl, rfl, rfl, rfl, rfl, rfl, rfl, rfl⟩
                    case measure => (simp [intOf]; try omega)
                · have y0 : (y != 0) = true := bne_t hy0
                  have HC := Lib.hid (show vaC s xs (cards hs) ts = y by rw [vaC_some HQ.out hKc HNO.out (by rw [HTX.out, ← HY.out]; exact hy0), HTX.out, HY.out])
                  have HR := Lib.hid (vaR_1 (show ¬ vaC s xs (cards hs) ts = 0 by rw [HC.out]; exact hy0))
                  go_wp2
                  go_ret2
                  rw [HC.out, HR.out]
                  exact ⟨none, 0, rfl, World.ownsRow_nil _ _ _ _, T0.trans (hbw.mono T0.size)⟩
              · obtain rfl : k = hs.length := by omega
                have HZ2 := Lib.hid (vaC_none HQ.out (by rw [cards_length]; exact hno))
                have HR2 := Lib.hid (vaR_0 HZ2.out)
                rw [cards_length] at HR2
                go_wp2
                go_ret2
                rw [HZ2.out, HR2.out]
                exact ⟨G, cg, rfl, own_base hown T0.size, T0.trans (hbw.mono T0.size)⟩
          · have w0 : (((hs[0]'h0).xs.length : Int) != (s.size : Int)) = true := bne_t (by omega)
            obtain ⟨hq1, hq2⟩ := HBAD.out 2 (pg_w HDK.out.symm HZ0.out (by rw [cards_length]; exact h0) (by rw [cards_at hs 0 (by rw [cards_length]; exact h0)]; exact hw)) (by omega)
            have HQ1 := Lib.hid hq1
            have HQ2 := Lib.hid hq2
            clear hq1 hq2 hw
            go_wp2
            go_ret2
            rw [HQ1.out, HQ2.out]
            exact ⟨none, 0, rfl, World.ownsRow_nil _ _ _ _, bs T0 B2⟩
        · have p1 : ¬ (0 : Int) < (hs.length : Int) := by omega
          have HQ := Lib.hid (HGOH.out (fun h => absurd h h0) _ rfl)
          clear HGOH
          have HV := Lib.hid (vaQ_0 HQ.out)
          have HXL := Lib.hid (l5C_0 HZ0.out)
          have hrow : (w2.alloc (.cells #[] 2)).ownsRow W.heap.size 2 1 (.slice (some ⟨w2.heap.size, 0, none⟩) 0 0) 0 [] := own_lit w2 #[] 0 rfl B2.size (by omega) rfl
          have HROW := Lib.hid hrow
          have B3 := ba B2 (.cells #[] 2)
          have HB3 := Lib.hid B3
          clear hrow B3
          go_wp2
          go_loopw [10, 11, 12, 13] (fun _ q11 q12 q13 wr => VsR s xs hs ts W wr q11 q12 q13) (fun _ _ _ q _ => hs.length - (intOf q).toNat)
          case atStart =>
            have e := HXL.out.2.2
            exact ⟨0, some ⟨w2.heap.size, 0, none⟩, 0, w.heap.size, 0, A, c, Nat.zero_le _, rfl, rfl, rfl, by rw [← e]; exact k5, by rw [← e]; exact ra, e, NoK.zero _ _, HROW.out, HB3.out⟩
          case round =>
            obtain ⟨wo, rfl⟩ : ∃ wo : World, wo = wr := ⟨_, rfl⟩
            obtain ⟨k, G, cg, pb, po, h, hc, hkn, rfl, rfl, rfl, hcell, hrb, hbl, hno, hown, hbw⟩ := hrel
            by_cases hlt : k < hs.length
            · omega
            · obtain rfl : k = hs.length := by omega
              have HZ2 := Lib.hid (vaC_none HQ.out (by rw [cards_length]; exact hno))
              have HR2 := Lib.hid (vaR_0 HZ2.out)
              rw [cards_length] at HR2
              go_wp2
              go_ret2
              rw [HZ2.out, HR2.out]
              exact ⟨G, cg, rfl, own_base hown T0.size, T0.trans (hbw.mono T0.size)⟩
      · have m1 : ((ts.length : Int) != (hs.length : Int)) = true := bne_t (by omega)
        obtain ⟨hq1, hq2⟩ := HBAD.out 2 (pg_m HDK.out.symm HZ0.out (by rw [cards_length]; exact hm)) (by omega)
        have HQ1 := Lib.hid hq1
        have HQ2 := Lib.hid hq2
        clear hq1 hq2
        go_wp2
        go_ret2
        rw [HQ1.out, HQ2.out]
        exact ⟨none, 0, rfl, World.ownsRow_nil _ _ _ _, bs T0 B2⟩
    · have n0 : (z == 0) = false := beq_f hz0
      have n1 : (z != 0) = true := bne_t hz0
      obtain ⟨hq1, hq2⟩ := HBAD.out z (by rw [pg_z HDK.out.symm (by rw [← HZ.out]; exact hz0), HZ.out]) hz0
      have HQ1 := Lib.hid hq1
      have HQ2 := Lib.hid hq2
      clear hq1 hq2
      go_wp2
      go_ret2
      rw [HQ1.out, HQ2.out]
      exact ⟨none, 0, rfl, World.ownsRow_nil _ _ _ _, bs T0 B2⟩
end Go.Proofs.YtkmejkeanmjfbaaGreatDoor

/-! ### VerifyAll, in the program. -/
namespace Go.Proofs.YtkmejkeanmjfbaaGreatDoor
open Go.RowKit

/-- A card put ahead of a deck's cards. -/
theorem rdd_cons {W w : World} {base : Nat} {e : TypeId} {G D : Option Addr} {cp : Nat} {A : Option Addr} {c : Nat} {xs : List Int} {hs : List Hd} (ho : w.ownsRow base e 1 (.slice G (hs.length + 1) cp) (hs.length + 1) (.slice A xs.length c :: heads hs)) (hB : Below W.heap.size W w)
    (ra : Rd W W.heap.size 1 A xs.length (ints xs)) (hc : xs.length ≤ c) (rd : RdD W W.heap.size D hs) : RdD w w.heap.size G (⟨A, c, xs⟩ :: hs) := by
  have rd2 := rd.up hB
  refine ⟨Rd.own ho, fun x hx => ?_, fun x hx => ?_⟩
  · rcases List.mem_cons.1 hx with rfl | hx
    · exact ra.up hB
    · exact rd2.card x hx
  · rcases List.mem_cons.1 hx with rfl | hx
    · exact hc
    · exact rd2.cap x hx

section
variable {w w' : World} {base : Nat} {e : TypeId} {size : Nat} {G : Option Addr} {n m c b : Nat} {xs : List Value}
theorem gr_ne (h : w.ownsRow base e size (.slice G n c) m xs) (hG : ∀ g, G = some ⟨g, 0, none⟩ → ¬ g = b) : (Value.slice G n c).ownBlock ≠ some b := by
  intro hb
  obtain ⟨ad, rfl, rfl⟩ := ownBlock_some hb
  rcases h.2 with ⟨hv, _⟩ | ⟨g, cap, cur, hv, _⟩
  · cases hv
  · injection hv with hv
    injection hv with hv
    subst hv
    exact hG g rfl rfl
theorem gr_cell (h : w.ownsRow base e size (.slice G n c) m xs) (hg : w.grownBy w' (Value.slice G n c).ownBlock) (hG : ∀ g, G = some ⟨g, 0, none⟩ → ¬ g = b) {o : Nat} {v : Value} (hc : w.cell? ⟨b, o, none⟩ = some v) : w'.cell? ⟨b, o, none⟩ = some v :=
  (World.cell?_of_block (hg.block b (World.block_lt_of_cell? _ _ hc) (fun e => gr_ne h hG e.symm))).trans hc
theorem gr_froz (h : w.ownsRow base e size (.slice G n c) m xs) (hg : w.grownBy w' (Value.slice G n c).ownBlock) (hG : ∀ g, G = some ⟨g, 0, none⟩ → ¬ g = b) {o : Nat} (hc : w.frozen? ⟨b, o, none⟩ = false) (hb : b < w.heap.size) : w'.frozen? ⟨b, o, none⟩ = false :=
  (World.frozen?_of_block (hg.block b hb (fun e => gr_ne h hG e.symm))).trans hc
end
/-- Behind k cards. -/
def ViR (s : ByteArray) (xs : List Int) (hs : List Hd) (ts : List ByteArray) (b12 : Nat) (W wr : World) (q11 q39 : Value) : Prop := ∃ (k : Nat) (G : Option Addr) (cg : Nat) (h : Option Addr) (hc : Nat), k ≤ hs.length ∧ q39 = .int .i64 k ∧ q11 = .slice G (colsWhere (vaP s xs (cards hs) ts) k).length cg ∧
  wr.cell? ⟨b12, 0, none⟩ = some (.slice h s.size hc) ∧ wr.frozen? ⟨b12, 0, none⟩ = false ∧ Rd W W.heap.size 1 h s.size (ints (befL xs (cards hs) k)) ∧ (befL xs (cards hs) k).length = s.size ∧ NoK s ts k ∧
  wr.ownsRow W.heap.size 2 1 (.slice G (colsWhere (vaP s xs (cards hs) ts) k).length cg) (colsWhere (vaP s xs (cards hs) ts) k).length (ints (colsWhere (vaP s xs (cards hs) ts) k)) ∧ (∀ g, G = some ⟨g, 0, none⟩ → ¬ g = b12) ∧ Below W.heap.size W wr ∧ b12 < wr.heap.size
set_option maxRecDepth 100000 in
set_option maxHeartbeats 8000000 in
theorem VerifyAll_any (s : ByteArray) (A : Option Addr) (c : Nat) (xs : List Int) (D : Option Addr) (cd : Nat) (hs : List Hd) (K : Option Addr) (ck : Nat) (ts : List ByteArray) (w : World) (hs0 : s.size ≤ 1048576)
    (ha : Rd w w.heap.size 1 A xs.length (ints xs)) (hl : xs.length ≤ 1048576) (hc : xs.length ≤ c) (hd : RdD w w.heap.size D hs) (hl2 : hs.length + tot hs ≤ 1048576) (hcd : hs.length ≤ cd) (hk : Rd w w.heap.size 1 K ts.length (strv ts)) (hl3 : ts.length ≤ 1048576) (ht : ∀ t ∈ ts, t.size ≤ 1048576) :
    Calls Tryz.prog 9 #[.string s, .agg #[.slice A xs.length c], .slice D hs.length cd, .slice K ts.length ck] w fun e w' => ∃ B d, e = .returned (.tuple #[.slice B (vaR s xs (cards hs) ts).length d, .int .i64 (vaC s xs (cards hs) ts)]) ∧
      w'.ownsRow w.heap.size 2 1 (.slice B (vaR s xs (cards hs) ts).length d) (vaR s xs (cards hs) ts).length (ints (vaR s xs (cards hs) ts)) ∧ Below w.heap.size w w' := by
  obtain ⟨i0, hi, hi0, hi1, hi2⟩ := info_parts info_i64
  obtain ⟨j0, hj, hj0, hj1, hj2⟩ := info_parts info_cardD
  have T0 := ba (b0 w) (.cells #[.slice A xs.length c] 26)
  have k5 := cell_new (w := w) (cs := #[.slice A xs.length c]) (e := 26) (j := 0) (H := w.heap.size) rfl rfl
  obtain ⟨W, hW⟩ : ∃ W, W = w.alloc (.cells #[.slice A xs.length c] 26) := ⟨_, rfl⟩
  have ra := ha.up T0
  have rd := hd.up T0
  have rk := hk.up T0
  rw [← hW] at T0 k5 ra rd rk
  have HW := Lib.hid hW
  have HT := Lib.hid ht
  have HVD := Lib.hid (fun X (x : RdD X X.heap.size D hs) => ValidDeck_any D cd hs X x hl2)
  obtain ⟨dk, hdk⟩ : ∃ dk, dk = deckOk (cards hs) := ⟨_, rfl⟩
  rw [← hdk] at HVD
  have HPC := Lib.hid (fun X G cp (x : RdD X X.heap.size G (⟨A, c, xs⟩ :: hs)) => programCode_any s dk G cp (⟨A, c, xs⟩ :: hs) X x (by rw [List.length_cons]; omega) hs0 (fun h hh => by
    rcases List.mem_cons.1 hh with rfl | hh
    · exact hl
    · have := tot_mem hh; omega))
  obtain ⟨pc, hpc⟩ : ∃ pc, pc = pgC s dk (cards (⟨A, c, xs⟩ :: hs)) := ⟨_, rfl⟩
  rw [← hpc] at HPC
  have HQV := Lib.hid (show vaQ s xs (cards hs) ts.length = if pc = 0 then (if ts.length = (cards hs).length then 0 else 2) else pc by unfold vaQ; rw [hpc, hdk]; rfl)
  clear hW ha hd hk ht hdk hpc
  go_enter Tryz.func9, Tryz.ntmps9
  go_wp2_with fail
  rw [← HW.out]
  go_cut [10] (fun s10 wx => s10 = .int .i64 pc ∧ Below W.heap.size W wx)
  case first =>
    have k50 := Lib.hid k5
    have k51 := cell_alloc k5 (.cells #[.slice A xs.length c] 26)
    go_region_law (first
      | (refine step_apc rfl (.tmp 21) (.tmp 22) 30 rfl W.heap.size 26 j0 _ 1 24 Tryz.underlying30 hj hj0 hj1 hj2 rfl (by omega) (some ⟨W.heap.size, 0, none⟩) 1 1 [.slice A xs.length c] _ (by simp [Act.eval, Act.put]) (by first | exact own_lit W #[.slice A xs.length c] 1 rfl (Nat.le_refl _) (by omega) rfl | exact own_lit W.drew #[.slice A xs.length c] 1 rfl (Nat.le_refl _) (by omega) rfl) W.heap.size D hs.length cd (heads hs) (by simp [Act.eval, Act.put]) (rd.row.alloc (Nat.le_refl _) _) (heads_one hs) (by omega) (by omega) (by simp) (hs.length + 1) (by omega) (.slice A xs.length c :: heads hs) rfl ?_; intro G1 c1 w6 hown6 hb6; have B6 : Below W.heap.size W w6 := ⟨hb6.os, hb6.tape, hb6.output, Nat.le_trans (by simp) hb6.size, fun q hq => (hb6.block q hq).trans ((ba (b0 W) (.cells #[.slice A xs.length c] 26)).block q hq)⟩; have R6 := rdd_cons hown6 B6 ra hc rd; have k6 := cell_later B6 k50.out)
      | (refine step_apc rfl (.tmp 21) (.tmp 22) 30 rfl w7.heap.size 26 j0 _ 1 24 Tryz.underlying30 hj hj0 hj1 hj2 rfl (by omega) (some ⟨w7.heap.size, 0, none⟩) 1 1 [.slice A xs.length c] _ (by simp [Act.eval, Act.put]) (by first | exact own_lit w7 #[.slice A xs.length c] 1 rfl (Nat.le_refl _) (by omega) rfl | exact own_lit w7.drew #[.slice A xs.length c] 1 rfl (Nat.le_refl _) (by omega) rfl) w7.heap.size D hs.length cd (heads hs) (by simp [Act.eval, Act.put]) ((rd.up B7).row.alloc (Nat.le_refl _) _) (heads_one hs) (by omega) (by omega) (by simp) (hs.length + 1) (by omega) (.slice A xs.length c :: heads hs) rfl ?_; intro G1 c1 w6 hown6 hb6; have B6 : Below W.heap.size W w6 := B7.trans ((⟨hb6.os, hb6.tape, hb6.output, Nat.le_trans (by simp) hb6.size, fun q hq => (hb6.block q hq).trans ((ba (b0 w7) (.cells #[.slice A xs.length c] 26)).block q hq)⟩ : Below w7.heap.size w7 w6).mono B7.size); have R6 := rdd_cons hown6 B6 ra hc rd; have k6 := cell_later B6 k50.out)
      | (refine step_apc rfl (.tmp 21) (.tmp 22) 30 rfl W.heap.size 26 j0 _ 1 24 Tryz.underlying30 hj hj0 hj1 hj2 rfl (by omega) (some ⟨W.heap.size, 0, none⟩) 1 1 [.slice A xs.length c] _ (by simp [Act.eval, Act.put]) (by first | exact own_bs (own_lit W #[.slice A xs.length c] 1 rfl (Nat.le_refl _) (by omega) rfl) ⟨hb7.os, hb7.tape, hb7.output, hb7.size, hb7.block⟩) W.heap.size D hs.length cd (heads hs) (by simp [Act.eval, Act.put]) (rd.row.below B7) (heads_one hs) (by omega) (by omega) B7.size (hs.length + 1) (by omega) (.slice A xs.length c :: heads hs) rfl ?_; intro G1 c1 w6 hown6 hb6; have B6 : Below W.heap.size W w6 := B7.trans ⟨hb6.os, hb6.tape, hb6.output, hb6.size, hb6.block⟩; have R6 := rdd_cons hown6 B6 ra hc rd; have k6 := cell_later B6 k50.out)
      | (go_simp; go_at_call 37; refine (HVD.out _ ?_).mono ?_; (first | exact rd | exact rd.drew | exact rd.a1 _ | exact (rd.a1 _).drew | exact rd.up B6 | exact (rd.up B6).drew); rintro e w7 ⟨rfl, hb7⟩; have B7 : Below W.heap.size W w7 := (by first | exact bs (b0 W) hb7 | exact bs (b0 W).drew hb7 | exact bs (ba (b0 W) _) hb7 | exact bs (ba (b0 W) _).drew hb7 | exact B6.trans ((⟨hb7.os, hb7.tape, hb7.output, hb7.size, hb7.block⟩ : Below w6.heap.size w6 w7).mono B6.size)); have k7 := cell_later B7 k50.out; have k71 := cell_alloc k7 (.cells #[.slice A xs.length c] 26); (try have R7 := R6.up (⟨hb7.os, hb7.tape, hb7.output, hb7.size, hb7.block⟩ : Below w6.heap.size w6 w7)))
      | (go_simp; go_at_call 31; refine (HPC.out _ G1 c1 ?_).mono ?_; (first | exact R6 | exact R6.drew | exact R7 | exact R7.drew); rintro e w8 ⟨rfl, hb8⟩; have B8 : Below W.heap.size W w8 := (by first | exact B6.trans ((⟨hb8.os, hb8.tape, hb8.output, hb8.size, hb8.block⟩ : Below w6.heap.size w6 w8).mono B6.size) | exact B7.trans ((⟨hb8.os, hb8.tape, hb8.output, hb8.size, hb8.block⟩ : Below w7.heap.size w7 w8).mono B7.size))))
    all_goals go_wp2_with fail
    all_goals go_meet
    all_goals exact ⟨rfl, B8⟩
  obtain ⟨w1, hw1⟩ : ∃ x : World, x = wc := ⟨_, rfl⟩
  subst hw1
  obtain ⟨rfl, hb1⟩ := hcut
  have rk1 := rk
  have q5 := cell_later hb1 k5
  clear HVD HPC k5
  have bad : ∀ q : Int, vaQ s xs (cards hs) ts.length = q → ¬ q = 0 → vaC s xs (cards hs) ts = q ∧ vaR s xs (cards hs) ts = [] := fun q h1 h2 => by
    have h3 : vaC s xs (cards hs) ts = q := by rw [vaC_q (by rw [h1]; exact h2), h1]
    exact ⟨h3, vaR_1 (by rw [h3]; exact h2)⟩
  have HBAD := Lib.hid bad
  clear bad
  by_cases hp0 : pc = 0
  · have p0 : (pc != 0) = false := bne_f hp0
    by_cases hm : ts.length = hs.length
    · have m1 : ((ts.length : Int) != (hs.length : Int)) = false := bne_f (by omega)
      have HQ := Lib.hid (show vaQ s xs (cards hs) ts.length = 0 by rw [HQV.out, if_pos hp0, cards_length, if_pos hm])
      have HV := Lib.hid (vaQ_0 HQ.out)
      have HXL := Lib.hid (l5C_0 HV.out.2.1)
      clear hp0
      go_wp2_with fail
      go_cut [11, 12] (fun s11 s12 wx => ∃ g b : Nat, s11 = .slice (some ⟨g, 0, none⟩) 0 0 ∧ s12 = .pointer (some ⟨b, 0, none⟩) ∧ ¬ g = b ∧ W.heap.size ≤ b ∧ wx.ownsRow W.heap.size 2 1 (.slice (some ⟨g, 0, none⟩) 0 0) 0 [] ∧ wx.cell? ⟨b, 0, none⟩ = some (.slice A xs.length c) ∧ wx.frozen? ⟨b, 0, none⟩ = false ∧ Below W.heap.size W wx ∧ b < wx.heap.size)
      case first =>
        have zb := hb1.size
        have q51 := cell_alloc q5 (.cells #[] 2)
        have q52 := cell_alloc q5 (.cells #[.slice none 0 0] 26)
        have q53 := cell_alloc q51 (.cells #[.slice none 0 0] 26)
        have q54 := cell_alloc q52 (.cells #[] 2)
        go_region
        all_goals go_wp2_with fail
        all_goals go_meet
        all_goals first
          | exact ⟨w1.heap.size, w1.heap.size + 1, rfl, rfl, by omega, by omega, (own_lit w1 #[] 0 rfl zb (by omega) rfl).alloc _, cell_new (by simp) rfl, froz_new (by simp), ((hb1.alloc zb _).alloc (by simp; omega) _).drew, by simp <;> omega⟩
          | exact ⟨w1.heap.size + 1, w1.heap.size, rfl, rfl, by omega, by omega, own_lit (w1.alloc (.cells #[.slice A xs.length c] 26)) #[] 0 (by simp) (by simp; omega) (by omega) rfl, cell_alloc (cell_new rfl rfl) _, froz_alloc (froz_new rfl) (by simp) _, ((hb1.alloc zb _).alloc (by simp; omega) _).drew, by simp <;> omega⟩
          | exact ⟨w1.heap.size, w1.heap.size + 1, rfl, rfl, by omega, by omega, (own_lit w1 #[] 0 rfl zb (by omega) rfl).alloc _, cell_new (by simp) rfl, froz_new (by simp), (hb1.alloc zb _).alloc (by simp; omega) _, by simp <;> omega⟩
          | exact ⟨w1.heap.size + 1, w1.heap.size, rfl, rfl, by omega, by omega, own_lit (w1.alloc (.cells #[.slice A xs.length c] 26)) #[] 0 (by simp) (by simp; omega) (by omega) rfl, cell_alloc (cell_new rfl rfl) _, froz_alloc (froz_new rfl) (by simp) _, (hb1.alloc zb _).alloc (by simp; omega) _, by simp <;> omega⟩
      obtain ⟨w2, hw2⟩ : ∃ x : World, x = wc := ⟨_, rfl⟩
      subst hw2
      obtain ⟨g0, b12, rfl, rfl, hgb, hWb, hrow, kb0, fb0, hb2, hb12⟩ := hcut
      have HROW := Lib.hid hrow
      have HB2 := Lib.hid hb2
      clear hrow hb2 hb1 q5
      go_wp2
      go_loopw [11, 13, 14, 15, 16, 39] (fun q11 _ _ _ _ q39 wr => ViR s xs hs ts b12 W wr q11 q39) (fun _ _ _ _ _ q _ => hs.length - (intOf q).toNat)
      case atStart =>
        have e := HXL.out.2.2
        exact ⟨0, some ⟨g0, 0, none⟩, 0, A, c, Nat.zero_le _, rfl, rfl, by rw [← e]; exact kb0, fb0, by rw [← e]; exact ra, e, NoK.zero _ _, HROW.out, (fun g hg => by injection hg with hg; injection hg with hg; omega), HB2.out, hb12⟩
      case round =>
        obtain ⟨wo, rfl⟩ : ∃ wo : World, wo = wr := ⟨_, rfl⟩
        obtain ⟨k, G, cg, h, hc', hkn, rfl, rfl, kb, fb, hrb, hbl, hno, hown, hGb, hbw, hbz⟩ := hrel
        by_cases hlt : k < hs.length
        · have i1 : (k : Int) < (hs.length : Int) := by omega
          have hkt : k < ts.length := by omega
          have i2 : (k : Int) < (ts.length : Int) := by omega
          obtain ⟨M, hM⟩ : ∃ M, M = colsWhere (vaP s xs (cards hs) ts) k := ⟨_, rfl⟩
          have hMk : M.length ≤ k := by rw [hM]; exact colsWhere_le _ _
          rw [← hM] at hown ⊢
          have HM := Lib.hid hM
          have HNO := Lib.hid hno
          have HBL := Lib.hid hbl
          have HTX := Lib.hid (txt_at hkt)
          have HTS := Lib.hid (HT.out ts[k] (List.getElem_mem hkt))
          have HP := Lib.hid HXL.out.1
          have hKc : k < (cards hs).length := by rw [cards_length]; exact hlt
          have HWK := Lib.hid (show hs[k].xs.length = s.size by rw [← cards_at hs k hKc]; exact HV.out.2.2.2 k hKc)
          have r0 := rd.below hbw
          obtain ⟨b1, o1, hD, hbD, hcD⟩ := r0.at_ hlt
          have dD := hcD k hlt
          rw [HWK.out] at dD
          subst hD
          have rcW := rd.card_at hlt
          rw [HWK.out] at rcW
          obtain ⟨bK, oK, hKe, _, hcK⟩ := (rk.below hbw).at_ hkt
          have dK := hcK k _ (strv_get ts k hkt)
          subst hKe
          obtain ⟨t, ht⟩ : ∃ t, t = ts[k] := ⟨_, rfl⟩
          rw [← ht] at dK HTX HTS
          obtain ⟨y, hy⟩ : ∃ y, y = chkC s t := ⟨_, rfl⟩
          have HY := Lib.hid hy
          obtain ⟨v, hv⟩ : ∃ v, v = verV s (befL xs (cards hs) k) t hs[k].xs := ⟨_, rfl⟩
          have HVP := Lib.hid (show vaP s xs (cards hs) ts k = decide (0 ≤ v) by
            unfold vaP
            rw [HTX.out, cards_getD hlt, hv])
          have HWR := Lib.hid (show ∀ X : World, Rd X X.heap.size 1 h s.size (ints (befL xs (cards hs) k)) → Rd X X.heap.size 1 hs[k].a s.size (ints hs[k].xs) → Calls Tryz.prog 38 #[.string s, .agg #[.slice h s.size hc'], .agg #[.slice hs[k].a s.size hs[k].c], .string t] X fun e w' => e = .returned (.tuple #[.int .i64 v, .int .i64 y]) ∧ Below X.heap.size X w' from fun X x3 x4 => by
            rw [hv, hy]
            exact verified_any s t h hc' (befL xs (cards hs) k) hs[k].a hs[k].c hs[k].xs X HP.out HBL.out HWK.out x3 x4 HTS.out)
          have HRW := Lib.hid rcW
          have hWo := hbw.size
          have TB := ba (b0 wo) (.cells #[.slice hs[k].a s.size hs[k].c] 26)
          obtain ⟨X, hX⟩ : ∃ X, X = wo.alloc (.cells #[.slice hs[k].a s.size hs[k].c] 26) := ⟨_, rfl⟩
          have kc := cell_new (w := wo) (cs := #[.slice hs[k].a s.size hs[k].c]) (e := 26) (j := 0) (H := wo.heap.size) rfl rfl
          have kb1 := cell_later TB kb
          have fb1 := froz_later TB fb hbz
          have dK1 := cell_later TB dK
          have rb := ((hrb.below hbw).more hWo).up TB
          have rc := ((rcW.below hbw).more hWo).up TB
          have hown1 := own_bs hown TB
          have HBX := Lib.hid (hbw.trans (TB.mono hWo))
          have hXs : X.heap.size = wo.heap.size + 1 := by rw [hX]; simp
          rw [← hX] at kc kb1 fb1 dK1 rb rc hown1 HBX
          have HX := Lib.hid hX
          have HOW := Lib.hid hown1
          have HKB := Lib.hid kb1
          have HFB := Lib.hid fb1
          have HKC := Lib.hid kc
          have HGB := Lib.hid hGb
          have HGN := Lib.hid (show ∀ g, G = some ⟨g, 0, none⟩ → ¬ g = wo.heap.size from fun g hg => by
            have := (hown.lt g (by rw [hg]; rfl)).2
            omega)
          have HBS := Lib.hid (show befL xs (cards hs) (k + 1) = hs[k].xs from befL_succ hlt)
          have l1 := fun x : Later X => lat_cell x kb1
          have l2 := fun x : Later X => lat_cell x kc
          have l3 := fun x : Later X => lat_cell x dK1
          have hne12 : ¬ wo.heap.size = b12 := by omega
          clear hcD hcK r0 hv hy ht hM hno hbl kb fb hown hGb hX TB dK rcW hrb hbw hown1 fb1
          go_wp2_with fail
          rw [← HX.out]
          refine wp_region_later (by kernel_rfl) (by kernel_rfl) ?_
          repeat (go_big_quiet_step ((go_at_call 38; exact lat_call (HWR.out _ (lat_rd _ rb) (lat_rd _ rc)))))
          refine wpQuiet_nil ?_
          intro wt hbt
          have kb2 := cell_later hbt HKB.out
          have fb2 := froz_later hbt HFB.out (by omega)
          have kc2 := cell_later hbt HKC.out
          have hown2 := own_bs HOW.out hbt
          have hzt := hbt.size
          have HBT := Lib.hid (HBX.out.trans (hbt.mono (by omega)))
          clear l1 l2 l3 hbt rb rc dK1 kb1 kc
          by_cases hy0 : y = 0
          · have y0 : (y != 0) = false := bne_f hy0
            have HYZ := Lib.hid (show chkC s t = 0 by rw [← HY.out, hy0])
            have HN2 := Lib.hid (HNO.out.succ (by rw [HTX.out]; exact HYZ.out))
            have hbase2 : W.heap.size ≤ wt.heap.size := HBT.out.size
            by_cases hv0 : 0 ≤ v
            · have HMS := Lib.hid (show colsWhere (vaP s xs (cards hs) ts) (k + 1) = M ++ [(k : Int)] by rw [colsWhere_yes (by rw [HVP.out]; exact decide_eq_true hv0), HM.out])
              have HOWN2 := Lib.hid hown2
              go_wp2_with (at_builtin; refine wpList_ap rfl (.tmp 60) (.tmp 62) 24 rfl W.heap.size 2 i0 _ 1 8 Tryz.underlying24 hi hi0 hi1 hi2 rfl (by omega) G M.length cg (ints M) rfl wt hown2 1 #[.int .i64 (k : Int)] wt.heap.size rfl rfl rfl (by intro u hu; simp at hu; subst hu; rfl) (by omega) (by omega) (by omega) hbase2 ?_; intro g cap w6 hown6 hb6 hg6 hgg _; have kb3 := gr_cell HOWN2.out hg6 HGB.out kb2; have kc3 := gr_cell HOWN2.out hg6 HGN.out kc2; have fb3 := gr_froz HOWN2.out hg6 HGB.out fb2 (by omega))
              have hgb2 : ¬ g = b12 := by
                rcases hgg with hgg | hgg
                · exact HGB.out g hgg
                · omega
              have HO := Lib.hid (show w6.ownsRow W.heap.size 2 1 (.slice (some ⟨g, 0, none⟩) (M.length + 1) cap) (M.length + 1) (ints (M ++ [(k : Int)])) by rw [ints_snoc]; exact hown6)
              have HB6 := Lib.hid (HBT.out.trans hb6)
              have hz6 := hg6.size
              clear hown6 hb6 hg6 hown2 kb2 kc2 fb2
              go_wp2
              go_roundw
              case rel =>
                have P : ViR s xs hs ts b12 W (w6.setCell ⟨b12, 0, none⟩ (.slice hs[k].a s.size hs[k].c)) (.slice (some ⟨g, 0, none⟩) (M.length + 1) cap) (.int .i64 ((k : Int) + 1)) := ⟨k + 1, some ⟨g, 0, none⟩, cap, hs[k].a, hs[k].c, by omega, by go_num, by rw [HMS.out, List.length_append]; rfl, World.cell?_setCell_same _ _ _ kb3, by simp [fb3], by rw [HBS.out]; exact HRW.out, by rw [HBS.out]; exact HWK.out, HN2.out, by rw [HMS.out, List.length_append]; exact ownsRow_setCell_other HO.out (by simp only [Value.ownBlock]; intro e; injection e with e; omega) _, (fun g' hg' => by injection hg' with hg'; injection hg' with hg'; omega), bset HB6.out _ _ _ hWb, by rw [World.size_setCell]; omega⟩
                first | exact P | exact ⟨_, P, rfl⟩ | exact ⟨_, _, P, rfl, rfl⟩ | exact ⟨_, _, _, P, rfl, rfl, rfl⟩ | exact ⟨_, _, _, _, P, rfl, rfl, rfl, rfl⟩ | exact ⟨_, _, _, _, _, P, rfl, rfl, rfl, rfl, rfl⟩ | exact ⟨_, _, _, _, _, _, P, rfl, rfl, rfl, rfl, rfl, rfl⟩ | exact ⟨_, _, _, _, _, _, _, P, rfl, rfl, rfl, rfl, rfl, rfl, rfl⟩ | exact ⟨_, _, _, _, _, _, _, _, P, rfl, rfl, rfl, rfl, rfl, rfl, rfl, rfl⟩
              case measure => (simp [intOf]; try omega)
            · have HMS := Lib.hid (show colsWhere (vaP s xs (cards hs) ts) (k + 1) = M by rw [colsWhere_no (by rw [HVP.out]; exact decide_eq_false hv0), HM.out])
              have HO := Lib.hid hown2
              clear hown2
              go_wp2
              go_roundw
              case rel =>
                have P : ViR s xs hs ts b12 W (wt.setCell ⟨b12, 0, none⟩ (.slice hs[k].a s.size hs[k].c)) (.slice G M.length cg) (.int .i64 ((k : Int) + 1)) := ⟨k + 1, G, cg, hs[k].a, hs[k].c, by omega, by go_num, by rw [HMS.out], World.cell?_setCell_same _ _ _ kb2, by simp [fb2], by rw [HBS.out]; exact HRW.out, by rw [HBS.out]; exact HWK.out, HN2.out, by rw [HMS.out]; exact ownsRow_setCell_other HO.out (gr_ne HO.out HGB.out) _, HGB.out, bset HBT.out _ _ _ hWb, by rw [World.size_setCell]; omega⟩
                first | exact P | exact ⟨_, P, rfl⟩ | exact ⟨_, _, P, rfl, rfl⟩ | exact ⟨_, _, _, P, rfl, rfl, rfl⟩ | exact ⟨_, _, _, _, P, rfl, rfl, rfl, rfl⟩ | exact ⟨_, _, _, _, _, P, rfl, rfl, rfl, rfl, rfl⟩ | exact ⟨_, _, _, _, _, _, P, rfl, rfl, rfl, rfl, rfl, rfl⟩ | exact ⟨_, _, _, _, _, _, _, P, rfl, rfl, rfl, rfl, rfl, rfl, rfl⟩ | exact ⟨_, _, _, _, _, _, _, _, P, rfl, rfl, rfl, rfl, rfl, rfl, rfl, rfl⟩
              case measure => (simp [intOf]; try omega)
          · have y0 : (y != 0) = true := bne_t hy0
            have HC := Lib.hid (show vaC s xs (cards hs) ts = y by rw [vaC_some HQ.out hKc HNO.out (by rw [HTX.out, ← HY.out]; exact hy0), HTX.out, HY.out])
            have HR := Lib.hid (vaR_1 (show ¬ vaC s xs (cards hs) ts = 0 by rw [HC.out]; exact hy0))
            clear hown2
            go_wp2
            go_ret2
            rw [HC.out, HR.out]
            exact ⟨none, 0, rfl, World.ownsRow_nil _ _ _ _, T0.trans ((HBT.out).mono T0.size)⟩
        · obtain rfl : k = hs.length := by omega
          have HZ2 := Lib.hid (vaC_none HQ.out (by rw [cards_length]; exact hno))
          have HR2 := Lib.hid (vaR_0 HZ2.out)
          rw [cards_length] at HR2
          go_wp2
          go_ret2
          rw [HZ2.out, HR2.out]
          exact ⟨G, cg, rfl, own_base hown T0.size, T0.trans (hbw.mono T0.size)⟩
    · have m1 : ((ts.length : Int) != (hs.length : Int)) = true := bne_t (by omega)
      obtain ⟨hq1, hq2⟩ := HBAD.out 2 (by rw [HQV.out, if_pos hp0, cards_length, if_neg hm]) (by omega)
      have HC := Lib.hid hq1
      have HR := Lib.hid hq2
      clear hq1 hq2
      go_wp2
      go_ret2
      rw [HC.out, HR.out]
      exact ⟨none, 0, rfl, World.ownsRow_nil _ _ _ _, T0.trans ((hb1).mono T0.size)⟩
  · have p0 : (pc != 0) = true := bne_t hp0
    obtain ⟨hq1, hq2⟩ := HBAD.out pc (by rw [HQV.out, if_neg hp0]) hp0
    have HC := Lib.hid hq1
    have HR := Lib.hid hq2
    clear hq1 hq2
    go_wp2
    go_ret2
    rw [HC.out, HR.out]
    exact ⟨none, 0, rfl, World.ownsRow_nil _ _ _ _, T0.trans ((hb1).mono T0.size)⟩
theorem VerifyAll_w (s : ByteArray) (A : Option Addr) (c : Nat) (xs : List Int) (D : Option Addr) (cd : Nat) (hs : List Hd) (L : List (List Int)) (K : Option Addr) (ck : Nat) (ts : List ByteArray) (w : World) (hs0 : s.size ≤ 1048576)
    (ha : Rd w w.heap.size 1 A xs.length (ints xs)) (hl : xs.length ≤ 1048576) (hc : xs.length ≤ c) (hd : RdD w w.heap.size D hs) (hL : cards hs = L) (hl2 : hs.length + tot hs ≤ 1048576) (hcd : hs.length ≤ cd) (hk : Rd w w.heap.size 1 K ts.length (strv ts)) (hl3 : ts.length ≤ 1048576) (ht : ∀ t ∈ ts, t.size ≤ 1048576) :
    Calls Tryz.prog 9 #[.string s, .agg #[.slice A xs.length c], .slice D hs.length cd, .slice K ts.length ck] w fun e w' => ∃ B d, e = .returned (.tuple #[.slice B (vaR s xs L ts).length d, .int .i64 (vaC s xs L ts)]) ∧
      w'.ownsRow w.heap.size 2 1 (.slice B (vaR s xs L ts).length d) (vaR s xs L ts).length (ints (vaR s xs L ts)) ∧ Below w.heap.size w w' := by
  subst hL
  exact VerifyAll_any s A c xs D cd hs K ck ts w hs0 ha hl hc hd hl2 hcd hk hl3 ht
theorem spVerifyAll_w (s : ByteArray) (A : Option Addr) (c : Nat) (xs : List Int) (D : Option Addr) (cd : Nat) (hs : List Hd) (L : List (List Int)) (K : Option Addr) (ck : Nat) (ts : List ByteArray) (w : World) (hs0 : s.size ≤ 1048576)
    (ha : Rd w w.heap.size 1 A xs.length (ints xs)) (hl : xs.length ≤ 1048576) (hc : xs.length ≤ c) (hd : RdD w w.heap.size D hs) (hL : cards hs = L) (hl2 : hs.length + tot hs ≤ 1048576) (hcd : hs.length ≤ cd) (hk : Rd w w.heap.size 1 K ts.length (strv ts)) (hl3 : ts.length ≤ 1048576) (ht : ∀ t ∈ ts, t.size ≤ 1048576) :
    Calls Tryz.prog 10 #[.string s, .agg #[.slice A xs.length c], .slice D hs.length cd, .slice K ts.length ck] w fun e w' => ∃ B d, e = .returned (.tuple #[.slice B (vaR s xs L ts).length d, .int .i64 (vaC s xs L ts)]) ∧
      w'.ownsRow w.heap.size 2 1 (.slice B (vaR s xs L ts).length d) (vaR s xs L ts).length (ints (vaR s xs L ts)) ∧ Below w.heap.size w w' := by
  subst hL
  exact spVerifyAll_any s A c xs D cd hs K ck ts w hs0 ha hl hc hd hl2 hcd hk hl3 ht
end Go.Proofs.YtkmejkeanmjfbaaGreatDoor
