/- MatchDecks in the program: the closures. MatchDecks in the reference: is a text among the keys? The keys of two decks and their code, in the reference (l09Two). MatchDecks in the program: the code of two decks. MatchDecks: a text is among the keys as a card has an equal one. No walk here. MatchDecks in the program. Two decks that grow side by side: an append to one leaves the other as it was. MatchDecks in the reference: two decks that grow side by side. MatchDecks in the reference. -/
import Derived.Test.YtdppmlchabogaaaKeysAll
import Derived.Test.YtdppmlchabogaaaDelCard
import Derived.Test.YtdppmlchabogaaaGroups
import Derived.Test.YtdppmlchabogaaaCollate
import Derived.Test.YtdppmlchabogaaaFind
import Derived.Test.YtdppmlchabogaaaSortPass
import Derived.Test.YtdppmlchabogaaaRunLaw
/-! ### MatchDecks in the program: the closures. -/
namespace Go.Proofs.Ytdppmlchabogaaa
open Go.RowKit

/-- Have two cards the same characters in the field? -/
def mtB (a b : Int) (y x : List Int) : Bool := decide (cmpR (part x a b) (part y a b) = 0)
theorem int_beq (z : Int) : (z == 0) = decide (z = 0) := rfl

set_option maxHeartbeats 1000000 in
theorem hasEqual1_any (bx bf : Nat) (A B : Option Addr) (c d : Nat) (xs ys : List Int) (i j : Nat) (w : World) (h1 : w.cell? ⟨bx, 0, none⟩ = some (.slice B ys.length d)) (h2 : w.cell? ⟨bf, 0, none⟩ = some (.int .i64 (i : Int))) (h3 : w.cell? ⟨bf, 1, none⟩ = some (.int .i64 (j : Int)))
    (ha : Rd w w.heap.size 1 A xs.length (ints xs)) (hb : Rd w w.heap.size 1 B ys.length (ints ys)) (hij : i < j) (hj : j ≤ xs.length) (hj' : j ≤ ys.length) (hl : xs.length ≤ 1048576) (hl' : ys.length ≤ 1048576) (hc : xs.length ≤ c) (hd : ys.length ≤ d) :
    Calls Try.prog 235 #[.agg #[.slice A xs.length c], .pointer (some ⟨bx, 0, none⟩), .pointer (some ⟨bf, 0, none⟩)] w fun e w' => e = .returned (.bool (mtB (i : Int) (j : Int) ys xs)) ∧ Below w.heap.size w w' := by
  obtain ⟨z, hz⟩ : ∃ z, z = cmpR (part xs (i : Int) (j : Int)) (part ys (i : Int) (j : Int)) := ⟨_, rfl⟩
  have HM := Lib.hid (show mtB (i : Int) (j : Int) ys xs = decide (z = 0) by rw [hz]; rfl)
  have HZ := Lib.hid hz
  have k1 := cell_alloc h1 (.cells #[.slice A xs.length c] 37)
  have k2 := cell_alloc h2 (.cells #[.slice A xs.length c] 37)
  have k3 := cell_alloc h3 (.cells #[.slice A xs.length c] 37)
  have ra := ha.a1 (.cells #[.slice A xs.length c] 37)
  have rb := hb.a1 (.cells #[.slice A xs.length c] 37)
  have T0 : Below w.heap.size w (w.alloc (.cells #[.slice A xs.length c] 37)) := ba (b0 w) _
  clear hz h1 h2 h3 ha hb
  go_enter Try.func235, Try.ntmps235
  go_wp2_with fail
  refine (compareFields_z A B c d xs ys i j z _ HZ.out ra rb hij hj hj' hl hl' hc hd).mono ?_; rintro e w1 ⟨rfl, hb1⟩
  go_wp2
  go_ret
  exact ⟨ret_bool (by rw [HM.out]; exact int_beq z), bs T0 hb1⟩

set_option maxHeartbeats 2000000 in
theorem hasEqual_any (D : Option Addr) (c : Nat) (hs : List Hd) (A : Option Addr) (cc : Nat) (xs : List Int) (i j : Nat) (r : Bool) (w : World) (hr : r = (cards hs).any (mtB (i : Int) (j : Int) xs)) (hd : RdD w w.heap.size D hs) (ha : Rd w w.heap.size 1 A xs.length (ints xs)) (hij : i < j) (hj : j ≤ xs.length) (hw : ∀ h ∈ hs, j ≤ h.xs.length) (hl : hs.length + tot hs ≤ 1048576) (hl' : xs.length ≤ 1048576) (hcc : xs.length ≤ cc) :
    Calls Try.prog 149 #[.slice D hs.length c, .agg #[.slice A xs.length cc], .agg #[.int .i64 (i : Int), .int .i64 (j : Int)]] w fun e w' => e = .returned (.bool r) ∧ Below w.heap.size w w' := by
  obtain ⟨W, hW⟩ : ∃ W, W = (w.alloc (.cells #[.slice A xs.length cc] 37)).alloc (.cells #[.int .i64 (i : Int), .int .i64 (j : Int)] 27) := ⟨_, rfl⟩
  have T0 : Below w.heap.size w W := by rw [hW]; exact ba (ba (b0 w) _) _
  have rd : RdD W W.heap.size D hs := by rw [hW]; exact (hd.a1 _).a1 _
  have ra : Rd W W.heap.size 1 A xs.length (ints xs) := by rw [hW]; exact (ha.a1 _).a1 _
  have k1 : W.cell? ⟨w.heap.size, 0, none⟩ = some (.slice A xs.length cc) := by rw [hW]; exact cell_alloc (cell_new rfl rfl) _
  have k2 : W.cell? ⟨w.heap.size + 1, 0, none⟩ = some (.int .i64 (i : Int)) := by rw [hW]; exact cell_new (by simp) rfl
  have k3 : W.cell? ⟨w.heap.size + 1, 1, none⟩ = some (.int .i64 (j : Int)) := by rw [hW]; exact cell_new (by simp) rfl
  have HW := Lib.hid hW
  have HCON := Lib.hid (ContainsFuncCard_any D c hs 235 #[.pointer (some ⟨w.heap.size, 0, none⟩), .pointer (some ⟨w.heap.size + 1, 0, none⟩)] (mtB (i : Int) (j : Int) xs) W rd (by omega) Try.call235
    (fun h hh w' hb => hasEqual1_any _ _ h.a A h.c cc h.xs xs i j w' (cell_later hb k1) (cell_later hb k2) (cell_later hb k3) ((rd.up hb).card h hh) (ra.up hb) hij (hw h hh) hj (by have := tot_mem hh; omega) hl' (rd.cap h hh) hcc))
  rw [← hr] at HCON
  clear hW hd ha hr k1 k2 k3 rd ra
  go_enter Try.func149, Try.ntmps149
  go_wp2_with fail
  rw [← HW.out]
  refine HCON.out.mono ?_; rintro e w1 ⟨rfl, hb1⟩
  go_wp2
  go_ret
  exact ⟨rfl, bs T0 hb1⟩

/-- The cards that are struck out: those that have an equal one (or have none). -/
def mtP (a b : Int) (L : List (List Int)) (f : Bool) (x : List Int) : Bool := (L.any (mtB a b x)) != f
set_option maxHeartbeats 2000000 in
theorem MatchDecks11_any (b1 bf b3 : Nat) (f : Bool) (D : Option Addr) (c : Nat) (hs : List Hd) (A : Option Addr) (cc : Nat) (xs : List Int) (i j : Nat) (w : World) (h1 : w.cell? ⟨b1, 0, none⟩ = some (.slice D hs.length c)) (h2 : w.cell? ⟨bf, 0, none⟩ = some (.int .i64 (i : Int))) (h3 : w.cell? ⟨bf, 1, none⟩ = some (.int .i64 (j : Int))) (h4 : w.cell? ⟨b3, 0, none⟩ = some (.bool f))
    (hd : RdD w w.heap.size D hs) (ha : Rd w w.heap.size 1 A xs.length (ints xs)) (hij : i < j) (hj : j ≤ xs.length) (hw : ∀ h ∈ hs, j ≤ h.xs.length) (hl : hs.length + tot hs ≤ 1048576) (hl' : xs.length ≤ 1048576) (hcc : xs.length ≤ cc) :
    Calls Try.prog 148 #[.agg #[.slice A xs.length cc], .pointer (some ⟨b1, 0, none⟩), .pointer (some ⟨bf, 0, none⟩), .pointer (some ⟨b3, 0, none⟩)] w fun e w' => e = .returned (.bool (mtP (i : Int) (j : Int) (cards hs) f xs)) ∧ Below w.heap.size w w' := by
  obtain ⟨r, hr⟩ : ∃ r, r = (cards hs).any (mtB (i : Int) (j : Int) xs) := ⟨_, rfl⟩
  have HM := Lib.hid (show mtP (i : Int) (j : Int) (cards hs) f xs = (r != f) by rw [hr]; rfl)
  have HRR := Lib.hid hr
  have HWW := Lib.hid hw
  have k1 := cell_alloc h1 (.cells #[.slice A xs.length cc] 37)
  have k2 := cell_alloc h2 (.cells #[.slice A xs.length cc] 37)
  have k3 := cell_alloc h3 (.cells #[.slice A xs.length cc] 37)
  have k4 := cell_alloc h4 (.cells #[.slice A xs.length cc] 37)
  have k5 : World.cell? (w.alloc (.cells #[.slice A xs.length cc] 37)) ⟨w.heap.size, 0, none⟩ = some (.slice A xs.length cc) := cell_new rfl rfl
  have ra := ha.a1 (.cells #[.slice A xs.length cc] 37)
  have rd := hd.a1 (.cells #[.slice A xs.length cc] 37)
  have T0 : Below w.heap.size w (w.alloc (.cells #[.slice A xs.length cc] 37)) := ba (b0 w) _
  have l1 := fun x : Later (w.alloc (.cells #[.slice A xs.length cc] 37)) => lat_cell x k1
  have l2 := fun x : Later (w.alloc (.cells #[.slice A xs.length cc] 37)) => lat_cell x k2
  have l3 := fun x : Later (w.alloc (.cells #[.slice A xs.length cc] 37)) => lat_cell x k3
  have l4 := fun x : Later (w.alloc (.cells #[.slice A xs.length cc] 37)) => lat_cell x k4
  have l5 := fun x : Later (w.alloc (.cells #[.slice A xs.length cc] 37)) => lat_cell x k5
  clear hr h1 h2 h3 h4 ha hd k1 k2 k3 k4 k5 hw
  go_enter Try.func148, Try.ntmps148
  go_wp2_with fail
  refine wp_region_later (by kernel_rfl) (by kernel_rfl) ?_
  repeat (go_big_quiet_step (fail))
  go_big_quiet_step ((go_at_call 149; exact lat_call (hasEqual_any D c hs A cc xs i j r _ HRR.out (rd.up (Later.below _)) (lat_rd _ ra) hij hj HWW.out hl hl' hcc)))
  repeat (go_big_quiet_step (fail))
  refine wpQuiet_nil ?_
  intro w4 hb4
  go_wp2
  go_ret
  exact ⟨ret_bool HM.out.symm, bs T0 hb4⟩
set_option maxHeartbeats 2000000 in
theorem MatchDecks1_any (bf : Nat) (f : Bool) (D : Option Addr) (c : Nat) (hs : List Hd) (E : Option Addr) (ce : Nat) (ks : List Hd) (i j : Nat) (w : World) (h2 : w.cell? ⟨bf, 0, none⟩ = some (.int .i64 (i : Int))) (h3 : w.cell? ⟨bf, 1, none⟩ = some (.int .i64 (j : Int)))
    (hd : RdD w w.heap.size D hs) (he : RdD w w.heap.size E ks) (hij : i < j) (hw : ∀ h ∈ hs, j ≤ h.xs.length) (hw' : ∀ h ∈ ks, j ≤ h.xs.length) (hl : hs.length + tot hs ≤ 1048576) (hl' : ks.length + tot ks ≤ 1048576) :
    Calls Try.prog 146 #[.slice D hs.length c, .slice E ks.length ce, .bool f, .pointer (some ⟨bf, 0, none⟩)] w fun e w' => ∃ G cg gs, e = .returned (.slice G gs.length cg) ∧ cards gs = keep (mtP (i : Int) (j : Int) (cards ks) f) (cards hs) ∧
      ObD w' w.heap.size w'.heap.size 37 2 G cg gs ∧ Below w.heap.size w w' := by
  obtain ⟨W, hW⟩ : ∃ W, W = (w.alloc (.cells #[.slice E ks.length ce] 24)).alloc (.cells #[.bool f] 4) := ⟨_, rfl⟩
  have T0 : Below w.heap.size w W := by rw [hW]; exact ba (ba (b0 w) _) _
  have rd : RdD W W.heap.size D hs := by rw [hW]; exact (hd.a1 _).a1 _
  have re : RdD W W.heap.size E ks := by rw [hW]; exact (he.a1 _).a1 _
  have k1 : W.cell? ⟨w.heap.size, 0, none⟩ = some (.slice E ks.length ce) := by rw [hW]; exact cell_alloc (cell_new rfl rfl) _
  have k4 : W.cell? ⟨w.heap.size + 1, 0, none⟩ = some (.bool f) := by rw [hW]; exact cell_new (by simp) rfl
  have k2 : W.cell? ⟨bf, 0, none⟩ = some (.int .i64 (i : Int)) := by rw [hW]; exact cell_alloc (cell_alloc h2 _) _
  have k3 : W.cell? ⟨bf, 1, none⟩ = some (.int .i64 (j : Int)) := by rw [hW]; exact cell_alloc (cell_alloc h3 _) _
  have HW := Lib.hid hW
  have HWD := Lib.hid hw
  have HWE := Lib.hid hw'
  clear hW hd he h2 h3 hw hw'
  go_enter Try.func146, Try.ntmps146
  go_wp2_with fail
  rw [← HW.out]
  refine (newDeck_any _ _ hs _ rd hl).mono ?_; rintro e w2 ⟨G, cg, gs, rfl, hcc, hog, hb2⟩
  have HCC := Lib.hid hcc
  have hgl : gs.length ≤ 1048576 := by have := (cards_same hcc).1; omega
  have hgt : ∀ h ∈ gs, h.xs.length ≤ 1048576 := fun h hh => by have h1 := tot_cards hcc; have h2 := tot_mem hh; omega
  have HCAP := Lib.hid (show ∀ h ∈ gs, h.xs.length ≤ h.c from fun h hh => (hog.rd).cap h hh)
  have HJ := Lib.hid (show ∀ h ∈ gs, j ≤ h.xs.length from fun h hh => by
    have hm : h.xs ∈ cards hs := by rw [← hcc]; exact List.mem_map.2 ⟨h, hh, rfl⟩
    obtain ⟨y, hy, e⟩ := List.mem_map.1 hm
    rw [← e]
    exact HWD.out y hy)
  clear hcc
  go_wp2_with fail
  refine (DeleteFuncCard_any G cg W.heap.size w2.heap.size gs 148 #[.pointer (some ⟨w.heap.size, 0, none⟩), .pointer (some ⟨bf, 0, none⟩), .pointer (some ⟨w.heap.size + 1, 0, none⟩)] (mtP (i : Int) (j : Int) (cards ks) f) _ hog hb2.size hgl Try.call148 (fun h hh w' hbk hrd => MatchDecks11_any _ _ _ f E ce ks h.a h.c h.xs i j w' (cell_later (hb2.trans hbk) k1) (cell_later (hb2.trans hbk) k2) (cell_later (hb2.trans hbk) k3) (cell_later (hb2.trans hbk) k4) (re.up (hb2.trans hbk)) hrd hij (HJ.out h hh) HWE.out hl' (hgt h hh) (HCAP.out h hh))).mono ?_; rintro e w3 ⟨gs3, rfl, hcc3, ho3, hb3⟩
  have HC3 := Lib.hid hcc3
  have hz3 := hb3.size
  clear hcc3
  go_wp2
  go_ret
  exact ⟨G, cg, gs3, rfl, by rw [HC3.out, HCC.out], ho3.mono T0.size (by first | exact hb3.size | omega), bs T0 (hb2.trans hb3)⟩
end Go.Proofs.Ytdppmlchabogaaa

/-! ### MatchDecks in the reference: is a text among the keys? -/
namespace Go.Proofs.Ytdppmlchabogaaa
open Go.RowKit

theorem bsq {s t : List UInt8} (h : bs_ s = bs_ t) : s = t := by
  have := congrArg (fun b : ByteArray => b.data.toList) h
  simpa [bs_] using this

end Go.Proofs.Ytdppmlchabogaaa

/-! ### The keys of two decks and their code, in the reference (l09Two). -/
namespace Go.Proofs.Ytdppmlchabogaaa
open Go.RowKit

theorem l02Field_z (a b n : Int) (r : Bool) (hr : r = fieldOk a b n) (w : World) :
    Calls Try.prog 120 #[.agg #[.int .i64 a, .int .i64 b], .int .i64 n] w fun e w' => e = .returned (.bool r) ∧ Below w.heap.size w w' := by
  subst hr
  exact l02Field_any a b n w
def twoK (L M X : List (List Int)) (a b : Int) : List (List UInt8) := if colC [L, M] true [] a b = 0 then keysL X a b else []
theorem twoK_0 {L M : List (List Int)} (X : List (List Int)) {a b : Int} (h : colC [L, M] true [] a b = 0) : twoK L M X a b = keysL X a b := by unfold twoK; rw [if_pos h]
theorem twoK_1 {L M : List (List Int)} (X : List (List Int)) {a b : Int} (h : colC [L, M] true [] a b ≠ 0) : twoK L M X a b = [] := by unfold twoK; rw [if_neg h]
theorem two_1 {L M : List (List Int)} {a b : Int} (h : deckOk L = false ∨ deckOk M = false) : colC [L, M] true [] a b = 1 := colC_1 (by rcases h with h | h <;> simp [h])
theorem two_2 {L M : List (List Int)} {a b : Int} (h1 : deckOk L = true) (h2 : deckOk M = true) (h : fieldOk a b (deckW L : Int) = false ∨ fieldOk a b (deckW M : Int) = false) : colC [L, M] true [] a b = 2 := colC_2 (by simp [h1, h2]) (by rcases h with h | h <;> simp [h])
theorem two_8 {L M : List (List Int)} {a b : Int} (h1 : deckOk L = true) (h2 : deckOk M = true) (h3 : fieldOk a b (deckW L : Int) = true) (h4 : fieldOk a b (deckW M : Int) = true) (h : haveF L a b = false ∨ haveF M a b = false) : colC [L, M] true [] a b = 8 := colC_8 (by simp [h1, h2]) (by simp [h3, h4]) rfl rfl (by rcases h with h | h <;> simp [h])
theorem two_0 {L M : List (List Int)} {a b : Int} (h1 : deckOk L = true) (h2 : deckOk M = true) (h3 : fieldOk a b (deckW L : Int) = true) (h4 : fieldOk a b (deckW M : Int) = true) (h5 : haveF L a b = true) (h6 : haveF M a b = true) : colC [L, M] true [] a b = 0 := colC_0 (by simp [h1, h2]) (by simp [h3, h4]) rfl rfl (by simp [h5, h6])
theorem codeK_8' {L : List (List Int)} {a b : Int} (h1 : deckOk L = true) (h2 : fieldOk a b (deckW L : Int) = true) (h3 : haveF L a b = false) : codeK L a b = 8 := by unfold codeK; rw [if_pos h1, if_pos h2, if_neg (by rw [h3]; decide)]
theorem codeK_0' {L : List (List Int)} {a b : Int} (h1 : deckOk L = true) (h2 : fieldOk a b (deckW L : Int) = true) (h3 : haveF L a b = true) : codeK L a b = 0 := by unfold codeK; rw [if_pos h1, if_pos h2, if_pos h3]
theorem ret_two {K1 K2 : Option Addr} {n1 n2 m1 m2 c1 c2 : Nat} {a b : Int} (h1 : n1 = m1) (h2 : n2 = m2) (h3 : a = b) : Ending.returned (.tuple #[.slice K1 n1 c1, .slice K2 n2 c2, .int .i64 a]) = .returned (.tuple #[.slice K1 m1 c1, .slice K2 m2 c2, .int .i64 b]) := by rw [h1, h2, h3]
theorem own_nil2 (w : World) (B : Nat) {l : List (List UInt8)} (h : l = []) : w.ownsRow B 9 1 (.slice none l.length 0) l.length (strs l) := by
  subst h
  exact World.ownsRow_nil _ _ _ _

theorem deckOk_small {ks : List Hd} (h : deckOk (cards ks) = true) : ks.length + tot ks ≤ 1048576 := by
  have hl := deckOk_len h
  rw [cards_length] at hl
  have key : ∀ (M : List Hd), (∀ x ∈ M, x.xs.length ≤ 20) → tot M ≤ M.length * 20 := by
    intro M
    induction M with
    | nil => simp [tot]
    | cons x M ih =>
      intro hM
      have h1 := hM x (by simp)
      have h2 := ih (fun y hy => hM y (by simp [hy]))
      simp only [tot, List.map_cons, List.sum_cons, List.length_cons, Nat.succ_mul] at h2 ⊢
      omega
  have h2 := key ks (fun x hx => by
    obtain ⟨k, hk, rfl⟩ := List.mem_iff_getElem.1 hx
    exact (cardOk_len (deckOk_hd h hk).1).2)
  omega
set_option maxRecDepth 20000 in
set_option maxHeartbeats 4000000 in
theorem l09Two_any (D : Option Addr) (c : Nat) (hs : List Hd) (E : Option Addr) (ce : Nat) (ks : List Hd) (a b : Int) (w : World) (hd : RdD w w.heap.size D hs) (he : RdD w w.heap.size E ks) (hl : hs.length + tot hs ≤ 1048576) (hw' : ks.length + tot ks ≤ 1048577) :
    Calls Try.prog 134 #[.slice D hs.length c, .slice E ks.length ce, .agg #[.int .i64 a, .int .i64 b]] w fun e w' => ∃ K1 c1 K2 c2, e = .returned (.tuple #[.slice K1 (twoK (cards hs) (cards ks) (cards hs) a b).length c1, .slice K2 (twoK (cards hs) (cards ks) (cards ks) a b).length c2, .int .i64 (colC [cards hs, cards ks] true [] a b)]) ∧
      w'.ownsRow w.heap.size 9 1 (.slice K1 (twoK (cards hs) (cards ks) (cards hs) a b).length c1) (twoK (cards hs) (cards ks) (cards hs) a b).length (strs (twoK (cards hs) (cards ks) (cards hs) a b)) ∧
      w'.ownsRow w.heap.size 9 1 (.slice K2 (twoK (cards hs) (cards ks) (cards ks) a b).length c2) (twoK (cards hs) (cards ks) (cards ks) a b).length (strs (twoK (cards hs) (cards ks) (cards ks) a b)) ∧ Below w.heap.size w w' := by
  have T0 : Below w.heap.size w (w.alloc (.cells #[.int .i64 a, .int .i64 b] 27)) := ba (b0 w) _
  have rd := hd.a1 (.cells #[.int .i64 a, .int .i64 b] 27)
  have re := he.a1 (.cells #[.int .i64 a, .int .i64 b] 27)
  obtain ⟨W, hW⟩ : ∃ W, W = w.alloc (.cells #[.int .i64 a, .int .i64 b] 27) := ⟨_, rfl⟩
  have k2 : W.cell? ⟨w.heap.size, 0, none⟩ = some (.int .i64 a) := by rw [hW]; exact cell_new rfl rfl
  have k3 : W.cell? ⟨w.heap.size, 1, none⟩ = some (.int .i64 b) := by rw [hW]; exact cell_new rfl rfl
  rw [← hW] at T0 rd re
  have HW := Lib.hid hW
  clear hW hd he
  rcases Bool.eq_false_or_eq_true (deckOk (cards hs)) with d1 | d1
  · rcases Bool.eq_false_or_eq_true (deckOk (cards ks)) with d2 | d2
    · have hl' : ks.length + tot ks ≤ 1048576 := deckOk_small d2
      rcases Bool.eq_false_or_eq_true (fieldOk a b (deckW (cards hs) : Int)) with f1 | f1
      · rcases Bool.eq_false_or_eq_true (fieldOk a b (deckW (cards ks) : Int)) with f2 | f2
        · rcases Bool.eq_false_or_eq_true (haveF (cards hs) a b) with v1 | v1
          · rcases Bool.eq_false_or_eq_true (haveF (cards ks) a b) with v2 | v2
            · have HC := Lib.hid (two_0 d1 d2 f1 f2 v1 v2)
              have HR1 := Lib.hid (twoK_0 (cards hs) HC.out)
              have HR2 := Lib.hid (twoK_0 (cards ks) HC.out)
              have HK1 := Lib.hid (codeK_0' d1 f1 v1)
              have HK2 := Lib.hid (codeK_0' d2 f2 v2)
              have HX1 := Lib.hid (keysRes_0 HK1.out)
              have HX2 := Lib.hid (keysRes_0 HK2.out)
              have HD1 := Lib.hid d1
              have HD2 := Lib.hid d2
              have HF1 := Lib.hid f1.symm
              have HF2 := Lib.hid f2.symm
              clear d1 d2 f1 f2 v1 v2
              go_enter Try.func134, Try.ntmps134
              go_wp2_with fail
              rw [← HW.out]
              refine (l02Deck_any _ _ hs _ rd hl).mono ?_; rw [HD1.out]; rintro e w1 ⟨rfl, hb1⟩
              go_wp2_with fail
              refine (l02Deck_any _ _ ks _ (re.up hb1) hl').mono ?_; rw [HD2.out]; rintro e w2 ⟨rfl, hb2⟩
              have T2 := bs hb1 hb2
              have q2 := cell_later T2 k2
              have q3 := cell_later T2 k3
              have rd2 := rd.up T2
              have re2 := re.up T2
              have T02 := bs T0 T2
              have l2 := fun x : Later w2 => lat_cell x q2
              have l3 := fun x : Later w2 => lat_cell x q3
              clear hb1 hb2 k2 k3 rd re T2
              go_wp2_with fail
              refine wp_region_later (by kernel_rfl) (by kernel_rfl) ?_
              repeat (go_big_quiet_step (fail))
              go_big_quiet_step ((go_at_call 221; exact lat_pure (l07Width_any _ _ hs _ (rd2.up (Later.below _)) hl)))
              repeat (go_big_quiet_step (fail))
              go_big_quiet_step ((go_at_call 120; exact lat_call (l02Field_z a b _ true HF1.out _)))
              repeat (go_big_quiet_step (fail))
              go_big_quiet_step ((go_at_call 221; exact lat_pure (l07Width_any _ _ ks _ (re2.up (Later.below _)) hl')))
              repeat (go_big_quiet_step (fail))
              go_big_quiet_step ((go_at_call 120; exact lat_call (l02Field_z a b _ true HF2.out _)))
              repeat (go_big_quiet_step (fail))
              refine wpQuiet_nil ?_
              intro w3 hb3
              have T03 := bs T02 hb3
              have q4 := cell_later hb3 q2
              have q5 := cell_later hb3 q3
              have rd3 := rd2.up hb3
              have re3 := re2.up hb3
              clear l2 l3 q2 q3 hb3 rd2 re2 T02
              go_wp2_with fail
              refine (l07Keys_any _ _ hs a b _ rd3 hl).mono ?_; rw [HK1.out]; rintro e w4 ⟨K1, c1, rfl, hown1, hb4⟩
              have q6 := cell_later hb4 q4
              have q7 := cell_later hb4 q5
              go_wp2_with fail
              refine (l07Keys_any _ _ ks a b _ (re3.up hb4) hl').mono ?_; rw [HK2.out]; rintro e w5 ⟨K2, c2, rfl, hown2, hb5⟩
              have T05 := bs (bs T03 hb4) hb5
              have HO1 := Lib.hid (own_base (own_bs hown1 hb5) T03.size)
              have HO2 := Lib.hid (own_base hown2 (bs T03 hb4).size)
              clear hown1 hown2
              go_wp2
              go_ret3
              refine ⟨K1, c1, K2, c2, ret_two (by rw [HR1.out, HX1.out]) (by rw [HR2.out, HX2.out]) HC.out.symm, ?_, ?_, T05⟩
              · rw [HR1.out, ← HX1.out]; exact HO1.out
              · rw [HR2.out, ← HX2.out]; exact HO2.out
            · have HC := Lib.hid (two_8 d1 d2 f1 f2 (.inr v2))
              have HR1 := Lib.hid (twoK_1 (L := cards hs) (M := cards ks) (cards hs) (a := a) (b := b) (by rw [HC.out]; decide))
              have HR2 := Lib.hid (twoK_1 (L := cards hs) (M := cards ks) (cards ks) (a := a) (b := b) (by rw [HC.out]; decide))
              have HK1 := Lib.hid (codeK_0' d1 f1 v1)
              have HK2 := Lib.hid (codeK_8' d2 f2 v2)
              have HD1 := Lib.hid d1
              have HD2 := Lib.hid d2
              have HF1 := Lib.hid f1.symm
              have HF2 := Lib.hid f2.symm
              clear d1 d2 f1 f2 v1 v2
              go_enter Try.func134, Try.ntmps134
              go_wp2_with fail
              rw [← HW.out]
              refine (l02Deck_any _ _ hs _ rd hl).mono ?_; rw [HD1.out]; rintro e w1 ⟨rfl, hb1⟩
              go_wp2_with fail
              refine (l02Deck_any _ _ ks _ (re.up hb1) hl').mono ?_; rw [HD2.out]; rintro e w2 ⟨rfl, hb2⟩
              have T2 := bs hb1 hb2
              have q2 := cell_later T2 k2
              have q3 := cell_later T2 k3
              have rd2 := rd.up T2
              have re2 := re.up T2
              have T02 := bs T0 T2
              have l2 := fun x : Later w2 => lat_cell x q2
              have l3 := fun x : Later w2 => lat_cell x q3
              clear hb1 hb2 k2 k3 rd re T2
              go_wp2_with fail
              refine wp_region_later (by kernel_rfl) (by kernel_rfl) ?_
              repeat (go_big_quiet_step (fail))
              go_big_quiet_step ((go_at_call 221; exact lat_pure (l07Width_any _ _ hs _ (rd2.up (Later.below _)) hl)))
              repeat (go_big_quiet_step (fail))
              go_big_quiet_step ((go_at_call 120; exact lat_call (l02Field_z a b _ true HF1.out _)))
              repeat (go_big_quiet_step (fail))
              go_big_quiet_step ((go_at_call 221; exact lat_pure (l07Width_any _ _ ks _ (re2.up (Later.below _)) hl')))
              repeat (go_big_quiet_step (fail))
              go_big_quiet_step ((go_at_call 120; exact lat_call (l02Field_z a b _ true HF2.out _)))
              repeat (go_big_quiet_step (fail))
              refine wpQuiet_nil ?_
              intro w3 hb3
              have T03 := bs T02 hb3
              have q4 := cell_later hb3 q2
              have q5 := cell_later hb3 q3
              have rd3 := rd2.up hb3
              have re3 := re2.up hb3
              clear l2 l3 q2 q3 hb3 rd2 re2 T02
              go_wp2_with fail
              refine (l07Keys_any _ _ hs a b _ rd3 hl).mono ?_; rw [HK1.out]; rintro e w4 ⟨K1, c1, rfl, hown1, hb4⟩
              have q6 := cell_later hb4 q4
              have q7 := cell_later hb4 q5
              go_wp2_with fail
              refine (l07Keys_any _ _ ks a b _ (re3.up hb4) hl').mono ?_; rw [HK2.out]; rintro e w5 ⟨K2, c2, rfl, hown2, hb5⟩
              have T05 := bs (bs T03 hb4) hb5
              clear hown1 hown2
              go_wp2
              go_ret3
              exact ⟨none, 0, none, 0, ret_two (by rw [HR1.out]; rfl) (by rw [HR2.out]; rfl) HC.out.symm, own_nil2 _ _ HR1.out, own_nil2 _ _ HR2.out, T05⟩
          · rcases Bool.eq_false_or_eq_true (haveF (cards ks) a b) with v2 | v2
            · have HC := Lib.hid (two_8 d1 d2 f1 f2 (.inl v1))
              have HR1 := Lib.hid (twoK_1 (L := cards hs) (M := cards ks) (cards hs) (a := a) (b := b) (by rw [HC.out]; decide))
              have HR2 := Lib.hid (twoK_1 (L := cards hs) (M := cards ks) (cards ks) (a := a) (b := b) (by rw [HC.out]; decide))
              have HK1 := Lib.hid (codeK_8' d1 f1 v1)
              have HK2 := Lib.hid (codeK_0' d2 f2 v2)
              have HD1 := Lib.hid d1
              have HD2 := Lib.hid d2
              have HF1 := Lib.hid f1.symm
              have HF2 := Lib.hid f2.symm
              clear d1 d2 f1 f2 v1 v2
              go_enter Try.func134, Try.ntmps134
              go_wp2_with fail
              rw [← HW.out]
              refine (l02Deck_any _ _ hs _ rd hl).mono ?_; rw [HD1.out]; rintro e w1 ⟨rfl, hb1⟩
              go_wp2_with fail
              refine (l02Deck_any _ _ ks _ (re.up hb1) hl').mono ?_; rw [HD2.out]; rintro e w2 ⟨rfl, hb2⟩
              have T2 := bs hb1 hb2
              have q2 := cell_later T2 k2
              have q3 := cell_later T2 k3
              have rd2 := rd.up T2
              have re2 := re.up T2
              have T02 := bs T0 T2
              have l2 := fun x : Later w2 => lat_cell x q2
              have l3 := fun x : Later w2 => lat_cell x q3
              clear hb1 hb2 k2 k3 rd re T2
              go_wp2_with fail
              refine wp_region_later (by kernel_rfl) (by kernel_rfl) ?_
              repeat (go_big_quiet_step (fail))
              go_big_quiet_step ((go_at_call 221; exact lat_pure (l07Width_any _ _ hs _ (rd2.up (Later.below _)) hl)))
              repeat (go_big_quiet_step (fail))
              go_big_quiet_step ((go_at_call 120; exact lat_call (l02Field_z a b _ true HF1.out _)))
              repeat (go_big_quiet_step (fail))
              go_big_quiet_step ((go_at_call 221; exact lat_pure (l07Width_any _ _ ks _ (re2.up (Later.below _)) hl')))
              repeat (go_big_quiet_step (fail))
              go_big_quiet_step ((go_at_call 120; exact lat_call (l02Field_z a b _ true HF2.out _)))
              repeat (go_big_quiet_step (fail))
              refine wpQuiet_nil ?_
              intro w3 hb3
              have T03 := bs T02 hb3
              have q4 := cell_later hb3 q2
              have q5 := cell_later hb3 q3
              have rd3 := rd2.up hb3
              have re3 := re2.up hb3
              clear l2 l3 q2 q3 hb3 rd2 re2 T02
              go_wp2_with fail
              refine (l07Keys_any _ _ hs a b _ rd3 hl).mono ?_; rw [HK1.out]; rintro e w4 ⟨K1, c1, rfl, hown1, hb4⟩
              have q6 := cell_later hb4 q4
              have q7 := cell_later hb4 q5
              go_wp2_with fail
              refine (l07Keys_any _ _ ks a b _ (re3.up hb4) hl').mono ?_; rw [HK2.out]; rintro e w5 ⟨K2, c2, rfl, hown2, hb5⟩
              have T05 := bs (bs T03 hb4) hb5
              clear hown1 hown2
              go_wp2
              go_ret3
              exact ⟨none, 0, none, 0, ret_two (by rw [HR1.out]; rfl) (by rw [HR2.out]; rfl) HC.out.symm, own_nil2 _ _ HR1.out, own_nil2 _ _ HR2.out, T05⟩
            · have HC := Lib.hid (two_8 d1 d2 f1 f2 (.inl v1))
              have HR1 := Lib.hid (twoK_1 (L := cards hs) (M := cards ks) (cards hs) (a := a) (b := b) (by rw [HC.out]; decide))
              have HR2 := Lib.hid (twoK_1 (L := cards hs) (M := cards ks) (cards ks) (a := a) (b := b) (by rw [HC.out]; decide))
              have HK1 := Lib.hid (codeK_8' d1 f1 v1)
              have HK2 := Lib.hid (codeK_8' d2 f2 v2)
              have HD1 := Lib.hid d1
              have HD2 := Lib.hid d2
              have HF1 := Lib.hid f1.symm
              have HF2 := Lib.hid f2.symm
              clear d1 d2 f1 f2 v1 v2
              go_enter Try.func134, Try.ntmps134
              go_wp2_with fail
              rw [← HW.out]
              refine (l02Deck_any _ _ hs _ rd hl).mono ?_; rw [HD1.out]; rintro e w1 ⟨rfl, hb1⟩
              go_wp2_with fail
              refine (l02Deck_any _ _ ks _ (re.up hb1) hl').mono ?_; rw [HD2.out]; rintro e w2 ⟨rfl, hb2⟩
              have T2 := bs hb1 hb2
              have q2 := cell_later T2 k2
              have q3 := cell_later T2 k3
              have rd2 := rd.up T2
              have re2 := re.up T2
              have T02 := bs T0 T2
              have l2 := fun x : Later w2 => lat_cell x q2
              have l3 := fun x : Later w2 => lat_cell x q3
              clear hb1 hb2 k2 k3 rd re T2
              go_wp2_with fail
              refine wp_region_later (by kernel_rfl) (by kernel_rfl) ?_
              repeat (go_big_quiet_step (fail))
              go_big_quiet_step ((go_at_call 221; exact lat_pure (l07Width_any _ _ hs _ (rd2.up (Later.below _)) hl)))
              repeat (go_big_quiet_step (fail))
              go_big_quiet_step ((go_at_call 120; exact lat_call (l02Field_z a b _ true HF1.out _)))
              repeat (go_big_quiet_step (fail))
              go_big_quiet_step ((go_at_call 221; exact lat_pure (l07Width_any _ _ ks _ (re2.up (Later.below _)) hl')))
              repeat (go_big_quiet_step (fail))
              go_big_quiet_step ((go_at_call 120; exact lat_call (l02Field_z a b _ true HF2.out _)))
              repeat (go_big_quiet_step (fail))
              refine wpQuiet_nil ?_
              intro w3 hb3
              have T03 := bs T02 hb3
              have q4 := cell_later hb3 q2
              have q5 := cell_later hb3 q3
              have rd3 := rd2.up hb3
              have re3 := re2.up hb3
              clear l2 l3 q2 q3 hb3 rd2 re2 T02
              go_wp2_with fail
              refine (l07Keys_any _ _ hs a b _ rd3 hl).mono ?_; rw [HK1.out]; rintro e w4 ⟨K1, c1, rfl, hown1, hb4⟩
              have q6 := cell_later hb4 q4
              have q7 := cell_later hb4 q5
              go_wp2_with fail
              refine (l07Keys_any _ _ ks a b _ (re3.up hb4) hl').mono ?_; rw [HK2.out]; rintro e w5 ⟨K2, c2, rfl, hown2, hb5⟩
              have T05 := bs (bs T03 hb4) hb5
              clear hown1 hown2
              go_wp2
              go_ret3
              exact ⟨none, 0, none, 0, ret_two (by rw [HR1.out]; rfl) (by rw [HR2.out]; rfl) HC.out.symm, own_nil2 _ _ HR1.out, own_nil2 _ _ HR2.out, T05⟩
        · have HC := Lib.hid (two_2 d1 d2 (.inr f2))
          have HR1 := Lib.hid (twoK_1 (L := cards hs) (M := cards ks) (cards hs) (a := a) (b := b) (by rw [HC.out]; decide))
          have HR2 := Lib.hid (twoK_1 (L := cards hs) (M := cards ks) (cards ks) (a := a) (b := b) (by rw [HC.out]; decide))
          have HD1 := Lib.hid d1
          have HD2 := Lib.hid d2
          have HF1 := Lib.hid f1.symm
          have HF2 := Lib.hid f2.symm
          clear d1 d2 f1 f2
          go_enter Try.func134, Try.ntmps134
          go_wp2_with fail
          rw [← HW.out]
          refine (l02Deck_any _ _ hs _ rd hl).mono ?_; rw [HD1.out]; rintro e w1 ⟨rfl, hb1⟩
          go_wp2_with fail
          refine (l02Deck_any _ _ ks _ (re.up hb1) hl').mono ?_; rw [HD2.out]; rintro e w2 ⟨rfl, hb2⟩
          have T2 := bs hb1 hb2
          have q2 := cell_later T2 k2
          have q3 := cell_later T2 k3
          have rd2 := rd.up T2
          have re2 := re.up T2
          have T02 := bs T0 T2
          have l2 := fun x : Later w2 => lat_cell x q2
          have l3 := fun x : Later w2 => lat_cell x q3
          clear hb1 hb2 k2 k3 rd re T2
          go_wp2_with fail
          refine wp_region_later (by kernel_rfl) (by kernel_rfl) ?_
          repeat (go_big_quiet_step (fail))
          go_big_quiet_step ((go_at_call 221; exact lat_pure (l07Width_any _ _ hs _ (rd2.up (Later.below _)) hl)))
          repeat (go_big_quiet_step (fail))
          go_big_quiet_step ((go_at_call 120; exact lat_call (l02Field_z a b _ true HF1.out _)))
          repeat (go_big_quiet_step (fail))
          go_big_quiet_step ((go_at_call 221; exact lat_pure (l07Width_any _ _ ks _ (re2.up (Later.below _)) hl')))
          repeat (go_big_quiet_step (fail))
          go_big_quiet_step ((go_at_call 120; exact lat_call (l02Field_z a b _ false HF2.out _)))
          repeat (go_big_quiet_step (fail))
          refine wpQuiet_nil ?_
          intro w3 hb3
          have T03 := bs T02 hb3
          have q4 := cell_later hb3 q2
          have q5 := cell_later hb3 q3
          have rd3 := rd2.up hb3
          have re3 := re2.up hb3
          clear l2 l3 q2 q3 hb3 rd2 re2 T02
          go_wp2
          go_ret3
          exact ⟨none, 0, none, 0, ret_two (by rw [HR1.out]; rfl) (by rw [HR2.out]; rfl) HC.out.symm, own_nil2 _ _ HR1.out, own_nil2 _ _ HR2.out, T03⟩
      · have HC := Lib.hid (two_2 d1 d2 (.inl f1))
        have HR1 := Lib.hid (twoK_1 (L := cards hs) (M := cards ks) (cards hs) (a := a) (b := b) (by rw [HC.out]; decide))
        have HR2 := Lib.hid (twoK_1 (L := cards hs) (M := cards ks) (cards ks) (a := a) (b := b) (by rw [HC.out]; decide))
        have HD1 := Lib.hid d1
        have HD2 := Lib.hid d2
        have HF1 := Lib.hid f1.symm
        clear d1 d2 f1
        go_enter Try.func134, Try.ntmps134
        go_wp2_with fail
        rw [← HW.out]
        refine (l02Deck_any _ _ hs _ rd hl).mono ?_; rw [HD1.out]; rintro e w1 ⟨rfl, hb1⟩
        go_wp2_with fail
        refine (l02Deck_any _ _ ks _ (re.up hb1) hl').mono ?_; rw [HD2.out]; rintro e w2 ⟨rfl, hb2⟩
        have T2 := bs hb1 hb2
        have q2 := cell_later T2 k2
        have q3 := cell_later T2 k3
        have rd2 := rd.up T2
        have re2 := re.up T2
        have T02 := bs T0 T2
        have l2 := fun x : Later w2 => lat_cell x q2
        have l3 := fun x : Later w2 => lat_cell x q3
        clear hb1 hb2 k2 k3 rd re T2
        go_wp2_with fail
        refine wp_region_later (by kernel_rfl) (by kernel_rfl) ?_
        repeat (go_big_quiet_step (fail))
        go_big_quiet_step ((go_at_call 221; exact lat_pure (l07Width_any _ _ hs _ (rd2.up (Later.below _)) hl)))
        repeat (go_big_quiet_step (fail))
        go_big_quiet_step ((go_at_call 120; exact lat_call (l02Field_z a b _ false HF1.out _)))
        repeat (go_big_quiet_step (fail))
        refine wpQuiet_nil ?_
        intro w3 hb3
        have T03 := bs T02 hb3
        have q4 := cell_later hb3 q2
        have q5 := cell_later hb3 q3
        have rd3 := rd2.up hb3
        have re3 := re2.up hb3
        clear l2 l3 q2 q3 hb3 rd2 re2 T02
        go_wp2
        go_ret3
        exact ⟨none, 0, none, 0, ret_two (by rw [HR1.out]; rfl) (by rw [HR2.out]; rfl) HC.out.symm, own_nil2 _ _ HR1.out, own_nil2 _ _ HR2.out, T03⟩
    · have HC := Lib.hid (two_1 (L := cards hs) (M := cards ks) (a := a) (b := b) (.inr d2))
      have HR1 := Lib.hid (twoK_1 (L := cards hs) (M := cards ks) (cards hs) (a := a) (b := b) (by rw [HC.out]; decide))
      have HR2 := Lib.hid (twoK_1 (L := cards hs) (M := cards ks) (cards ks) (a := a) (b := b) (by rw [HC.out]; decide))
      have HD1 := Lib.hid d1
      have HD2 := Lib.hid d2
      clear d1 d2
      go_enter Try.func134, Try.ntmps134
      go_wp2_with fail
      rw [← HW.out]
      refine (l02Deck_any _ _ hs _ rd hl).mono ?_; rw [HD1.out]; rintro e w1 ⟨rfl, hb1⟩
      go_wp2_with fail
      refine (l02Deck_w _ _ ks _ (re.up hb1) hw').mono ?_; rw [HD2.out]; rintro e w2 ⟨rfl, hb2⟩
      go_wp2
      go_ret3
      exact ⟨none, 0, none, 0, ret_two (by rw [HR1.out]; rfl) (by rw [HR2.out]; rfl) HC.out.symm, own_nil2 _ _ HR1.out, own_nil2 _ _ HR2.out, bs T0 (bs hb1 hb2)⟩
  · have HC := Lib.hid (two_1 (L := cards hs) (M := cards ks) (a := a) (b := b) (.inl d1))
    have HR1 := Lib.hid (twoK_1 (L := cards hs) (M := cards ks) (cards hs) (a := a) (b := b) (by rw [HC.out]; decide))
    have HR2 := Lib.hid (twoK_1 (L := cards hs) (M := cards ks) (cards ks) (a := a) (b := b) (by rw [HC.out]; decide))
    have HD1 := Lib.hid d1
    clear d1
    go_enter Try.func134, Try.ntmps134
    go_wp2_with fail
    rw [← HW.out]
    refine (l02Deck_any _ _ hs _ rd hl).mono ?_; rw [HD1.out]; rintro e w1 ⟨rfl, hb1⟩
    go_wp2
    go_ret3
    exact ⟨none, 0, none, 0, ret_two (by rw [HR1.out]; rfl) (by rw [HR2.out]; rfl) HC.out.symm, own_nil2 _ _ HR1.out, own_nil2 _ _ HR2.out, bs T0 hb1⟩
end Go.Proofs.Ytdppmlchabogaaa

/-! ### MatchDecks in the program: the code of two decks. -/
namespace Go.Proofs.Ytdppmlchabogaaa
open Go.RowKit

theorem rdd_two {w : World} {g : Nat} {D E : Option Addr} {c d : Nat} {hs ks : List Hd} (h : w.cell? ⟨g, 0, none⟩ = some (.slice D hs.length c)) (h' : w.cell? ⟨g, 1, none⟩ = some (.slice E ks.length d)) (ha : RdD w w.heap.size D hs) (he : RdD w w.heap.size E ks) (hc : hs.length ≤ c) (hd : ks.length ≤ d) :
    RdDD w w.heap.size (some ⟨g, 0, none⟩) [⟨D, c, hs, 0, 0⟩, ⟨E, d, ks, 0, 0⟩] := by
  refine ⟨⟨rfl, fun _ => ⟨g, 0, rfl, World.block_lt_of_cell? _ _ h, fun j u hu => ?_⟩⟩, ?_, ?_⟩
  · match j with
    | 0 => simp [dheads, Dk.cell] at hu; subst hu; exact h
    | 1 => simp [dheads, Dk.cell] at hu; subst hu; exact h'
    | j + 2 => simp [dheads] at hu
  · intro x hx
    simp only [List.mem_cons, List.not_mem_nil, or_false] at hx
    rcases hx with rfl | rfl
    · exact ha
    · exact he
  · intro x hx
    simp only [List.mem_cons, List.not_mem_nil, or_false] at hx
    rcases hx with rfl | rfl
    · exact hc
    · exact hd
set_option maxHeartbeats 1000000 in
theorem collate2_any (a b : Int) (g : Nat) (D E : Option Addr) (c d : Nat) (hs ks : List Hd) (w : World) (h : w.cell? ⟨g, 0, none⟩ = some (.slice D hs.length c)) (h' : w.cell? ⟨g, 1, none⟩ = some (.slice E ks.length d)) (ha : RdD w w.heap.size D hs) (he : RdD w w.heap.size E ks) (hc : hs.length ≤ c) (hd : ks.length ≤ d) (hl : hs.length + tot hs ≤ 1048576) (hl' : ks.length + tot ks ≤ 1048576) :
    Calls Try.prog 127 #[.agg #[.int .i64 a, .int .i64 b], .bool true, .slice none 0 0, .slice (some ⟨g, 0, none⟩) 2 2] w fun e w' => e = .returned (.int .i64 (colC [cards hs, cards ks] true [] a b)) ∧ Below w.heap.size w w' :=
  collateCode_any a b none 0 [] (some ⟨g, 0, none⟩) 2 [⟨D, c, hs, 0, 0⟩, ⟨E, d, ks, 0, 0⟩] w (rdd_two h h' ha he hc hd) (by simp) (by simp)
    (fun k hk => by
      match k, hk with
      | 0, _ => exact hl
      | 1, _ => exact hl')
    ⟨rfl, fun h => absurd h (by simp)⟩ (by simp) (fun k h => absurd h (by simp))
end Go.Proofs.Ytdppmlchabogaaa

/-! ### MatchDecks: a text is among the keys as a card has an equal one. No walk here. -/
namespace Go.Proofs.Ytdppmlchabogaaa
open Go.RowKit

theorem mt_has {M : List (List Int)} {i j : Nat} (hok : deckOk M = true) (hij : i < j) (hj : j ≤ deckW M) (hv : haveF M (i : Int) (j : Int) = true) {x : List Int} (hx : legalL (part x (i : Int) (j : Int)) = true) (hxl : (part x (i : Int) (j : Int)).length = j - i) :
    (keysL M (i : Int) (j : Int)).any (fun s => decide (s = textL (part x (i : Int) (j : Int)))) = M.any (mtB (i : Int) (j : Int) x) := by
  have key : ∀ y ∈ M, (textL (part y (i : Int) (j : Int)) = textL (part x (i : Int) (j : Int))) ↔ cmpR (part y (i : Int) (j : Int)) (part x (i : Int) (j : Int)) = 0 := by
    intro y hy
    obtain ⟨k, hk, rfl⟩ := List.mem_iff_getElem.1 hy
    exact text_eq (haveF_at hv hk) hx (by rw [(part_deck hok hij hj hk).1, hxl])
  unfold keysL
  rw [Bool.eq_iff_iff, List.any_eq_true, List.any_eq_true]
  constructor
  · rintro ⟨s, hs, h⟩
    obtain ⟨y, hy, rfl⟩ := List.mem_map.1 hs
    exact ⟨y, hy, decide_eq_true ((key y hy).1 (of_decide_eq_true h))⟩
  · rintro ⟨y, hy, h⟩
    exact ⟨_, List.mem_map.2 ⟨y, hy, rfl⟩, decide_eq_true ((key y hy).2 (of_decide_eq_true h))⟩
end Go.Proofs.Ytdppmlchabogaaa

/-! ### MatchDecks in the program. -/
namespace Go.Proofs.Ytdppmlchabogaaa
open Go.RowKit

/-- Four decks of the call's own, one behind the other, in a row that is made last. -/
theorem obdd_four {w : World} {lo : Nat} {eE eD eC : TypeId} (d1 d2 d3 d4 : Dk) (h1 : ObD w d1.lo d1.hi eD eC d1.a d1.c d1.hs) (h2 : ObD w d2.lo d2.hi eD eC d2.a d2.c d2.hs) (h3 : ObD w d3.lo d3.hi eD eC d3.a d3.c d3.hs) (h4 : ObD w d4.lo d4.hi eD eC d4.a d4.c d4.hs)
    (l1 : lo ≤ d1.lo) (m1 : d1.lo ≤ d1.hi) (l2 : d1.hi ≤ d2.lo) (m2 : d2.lo ≤ d2.hi) (l3 : d2.hi ≤ d3.lo) (m3 : d3.lo ≤ d3.hi) (l4 : d3.hi ≤ d4.lo) (m4 : d4.lo ≤ d4.hi) (l5 : d4.hi ≤ w.heap.size) :
    ObDD (w.alloc (.cells #[.slice d1.a d1.hs.length d1.c, .slice d2.a d2.hs.length d2.c, .slice d3.a d3.hs.length d3.c, .slice d4.a d4.hs.length d4.c] eE)) lo (w.alloc (.cells #[.slice d1.a d1.hs.length d1.c, .slice d2.a d2.hs.length d2.c, .slice d3.a d3.hs.length d3.c, .slice d4.a d4.hs.length d4.c] eE)).heap.size eE eD eC (some ⟨w.heap.size, 0, none⟩) 4 [d1, d2, d3, d4] := by
  have hrow : (w.alloc (.cells #[.slice d1.a d1.hs.length d1.c, .slice d2.a d2.hs.length d2.c, .slice d3.a d3.hs.length d3.c, .slice d4.a d4.hs.length d4.c] eE)).ownsRow w.heap.size eE 1 (.slice (some ⟨w.heap.size, 0, none⟩) 4 4) 4 (dheads [d1, d2, d3, d4]) := own_lit w _ 4 rfl (Nat.le_refl _) (by omega) rfl
  refine ⟨(Ob.of hrow).mono (by omega) (Nat.le_refl _), ?_, ?_, ?_⟩
  · intro d hd
    simp only [List.mem_cons, List.not_mem_nil, or_false] at hd
    rcases hd with rfl | rfl | rfl | rfl
    · exact ⟨h1.alloc _, by omega, by simp; omega⟩
    · exact ⟨h2.alloc _, by omega, by simp; omega⟩
    · exact ⟨h3.alloc _, by omega, by simp; omega⟩
    · exact ⟨h4.alloc _, by omega, by simp; omega⟩
  · simp only [List.pairwise_cons, List.mem_cons, List.not_mem_nil, or_false]
    refine ⟨?_, ?_, ?_, ?_, List.Pairwise.nil⟩
    · rintro x (rfl | rfl | rfl) <;> omega
    · rintro x (rfl | rfl) <;> omega
    · rintro x rfl; omega
    · rintro x hx; exact hx.elim
  · intro d hd k hk
    have hk' : w.heap.size = k := by simpa [Value.ownBlock] using hk
    right
    simp only [List.mem_cons, List.not_mem_nil, or_false] at hd
    rcases hd with rfl | rfl | rfl | rfl <;> omega
def mtC (L M : List (List Int)) (a b : Int) : Int := if colC [L, M] true [] a b = 0 then (if (stepsL L a b L.length).length = 0 ∧ (stepsL M a b M.length).length = 0 then 0 else 6) else colC [L, M] true [] a b
def mtR (L M : List (List Int)) (a b : Int) : List (List (List Int)) := if mtC L M a b = 0 then [keep (mtP a b M true) L, keep (mtP a b L true) M, keep (mtP a b M false) L, keep (mtP a b L false) M] else []
theorem mtC_0 {L M : List (List Int)} {a b : Int} (h : colC [L, M] true [] a b = 0) (h1 : (stepsL L a b L.length).length = 0) (h2 : (stepsL M a b M.length).length = 0) : mtC L M a b = 0 := by unfold mtC; rw [if_pos h, if_pos ⟨h1, h2⟩]
theorem mtC_6 {L M : List (List Int)} {a b : Int} (h : colC [L, M] true [] a b = 0) (h1 : ¬ ((stepsL L a b L.length).length = 0 ∧ (stepsL M a b M.length).length = 0)) : mtC L M a b = 6 := by unfold mtC; rw [if_pos h, if_neg h1]
theorem mtC_e {L M : List (List Int)} {a b : Int} (h : colC [L, M] true [] a b ≠ 0) : mtC L M a b = colC [L, M] true [] a b := by unfold mtC; rw [if_neg h]
theorem mtR_0 {L M : List (List Int)} {a b : Int} (h : mtC L M a b = 0) : mtR L M a b = [keep (mtP a b M true) L, keep (mtP a b L true) M, keep (mtP a b M false) L, keep (mtP a b L false) M] := by unfold mtR; rw [if_pos h]
theorem mtR_1 {L M : List (List Int)} {a b : Int} (h : mtC L M a b ≠ 0) : mtR L M a b = [] := by unfold mtR; rw [if_neg h]
theorem colC_two {L M : List (List Int)} {a b : Int} (h : colC [L, M] true [] a b = 0) : deckOk L = true ∧ deckOk M = true ∧ fieldOk a b (deckW L : Int) = true ∧ fieldOk a b (deckW M : Int) = true ∧ haveF L a b = true ∧ haveF M a b = true := by
  unfold colC at h
  split at h
  · rename_i h1
    rw [if_pos rfl] at h
    split at h
    · rename_i h2
      rw [if_pos (show ([] : List ByteArray).all (lenB a b) = true from rfl), if_pos (show ([] : List ByteArray).all chaB = true from rfl)] at h
      split at h
      · rename_i h3
        simp only [List.all_cons, List.all_nil, Bool.and_true, Bool.and_eq_true] at h1 h2 h3
        exact ⟨h1.1, h1.2, h2.1, h2.2, h3.1, h3.2⟩
      · omega
    · omega
  · omega

set_option maxRecDepth 20000 in
set_option maxHeartbeats 4000000 in
theorem MatchDecks_any (D : Option Addr) (c : Nat) (hs : List Hd) (L : List (List Int)) (E : Option Addr) (ce : Nat) (ks : List Hd) (M : List (List Int)) (a b : Int) (w : World) (hd : RdD w w.heap.size D hs) (hL : cards hs = L) (hl : hs.length + tot hs ≤ 1048576) (hc : hs.length ≤ c) (he : RdD w w.heap.size E ks) (hM : cards ks = M) (hl' : ks.length + tot ks ≤ 1048576) (hc' : ks.length ≤ ce) :
    Calls Try.prog 37 #[.slice D hs.length c, .slice E ks.length ce, .agg #[.int .i64 a, .int .i64 b]] w fun e w' => ∃ F cf ds, e = .returned (.tuple #[.slice F ds.length cf, .int .i64 (mtC L M a b)]) ∧ decks ds = mtR L M a b ∧ ObDD w' w.heap.size w'.heap.size 24 37 2 F cf ds ∧ Below w.heap.size w w' := by
  subst hL hM
  obtain ⟨W, hW⟩ : ∃ W, W = (w.alloc (.cells #[.int .i64 a, .int .i64 b] 27)).alloc (.cells #[.slice D hs.length c, .slice E ks.length ce] 24) := ⟨_, rfl⟩
  have T0 : Below w.heap.size w W := by rw [hW]; exact ba (ba (b0 w) _) _
  have rd : RdD W W.heap.size D hs := by rw [hW]; exact (hd.a1 _).a1 _
  have re : RdD W W.heap.size E ks := by rw [hW]; exact (he.a1 _).a1 _
  have k1 : W.cell? ⟨w.heap.size, 0, none⟩ = some (.int .i64 a) := by rw [hW]; exact cell_alloc (cell_new rfl rfl) _
  have k2 : W.cell? ⟨w.heap.size, 1, none⟩ = some (.int .i64 b) := by rw [hW]; exact cell_alloc (cell_new rfl rfl) _
  have k5 : W.cell? ⟨w.heap.size + 1, 0, none⟩ = some (.slice D hs.length c) := by rw [hW]; exact cell_new (by simp) rfl
  have k6 : W.cell? ⟨w.heap.size + 1, 1, none⟩ = some (.slice E ks.length ce) := by rw [hW]; exact cell_new (by simp) rfl
  have HW := Lib.hid hW
  have HCO := Lib.hid (collate2_any a b (w.heap.size + 1) D E c ce hs ks W k5 k6 rd re hc hc' hl hl')
  clear hW hd he k5 k6
  by_cases hz : colC [cards hs, cards ks] true [] a b = 0
  · obtain ⟨o1, o2, f1, f2, v1, v2⟩ := colC_two hz
    obtain ⟨i, j, rfl, rfl, hij, hj1⟩ := fieldOk_nat f1
    have hj2 : j ≤ deckW (cards ks) := by have := fieldOk_true f2; omega
    have HZ := Lib.hid hz
    have HO1 := Lib.hid o1
    have HO2 := Lib.hid o2
    have HJ1 := Lib.hid (show ∀ h ∈ hs, j ≤ h.xs.length from fun h hh => by
      obtain ⟨k, hk, e⟩ := List.mem_iff_getElem.1 (show h.xs ∈ cards hs from List.mem_map.2 ⟨h, hh, rfl⟩)
      rw [← e]
      exact (part_deck o1 hij hj1 hk).2)
    have HJ2 := Lib.hid (show ∀ h ∈ ks, j ≤ h.xs.length from fun h hh => by
      obtain ⟨k, hk, e⟩ := List.mem_iff_getElem.1 (show h.xs ∈ cards ks from List.mem_map.2 ⟨h, hh, rfl⟩)
      rw [← e]
      exact (part_deck o2 hij hj2 hk).2)
    have HC0 := Lib.hid (@mtC_0 (cards hs) (cards ks) (i : Int) (j : Int) hz)
    have HC6 := Lib.hid (@mtC_6 (cards hs) (cards ks) (i : Int) (j : Int) hz)
    clear hz o1 o2 f1 f2 v1 v2
    by_cases s1 : (stepsL (cards hs) (i : Int) (j : Int) (cards hs).length).length = 0
    · have HS1 := Lib.hid (show true = decide ((stepsL (cards hs) (i : Int) (j : Int) (cards hs).length).length = 0) by rw [decide_eq_true s1])
      by_cases s2 : (stepsL (cards ks) (i : Int) (j : Int) (cards ks).length).length = 0
      · have HS2 := Lib.hid (show true = decide ((stepsL (cards ks) (i : Int) (j : Int) (cards ks).length).length = 0) by rw [decide_eq_true s2])
        have HC := Lib.hid (HC0.out s1 s2)
        have HR := Lib.hid (mtR_0 HC.out)
        clear s1 s2 HC0 HC6
        go_enter Try.func37, Try.ntmps37
        go_wp2_with fail
        rw [← HW.out]
        refine HCO.out.mono ?_; rintro e w1 ⟨rfl, hb1⟩
        have e0 : colC [cards hs, cards ks] true [] (i : Int) (j : Int) = 0 := HZ.out
        have q1 := cell_later hb1 k1
        have q2 := cell_later hb1 k2
        have rd1 := rd.up hb1
        have re1 := re.up hb1
        have T1 := bs T0 hb1
        clear k1 k2 rd re hb1
        go_wp2_with fail
        refine (isAscending_any D c hs i j true _ rd1 HO1.out hij hj1 hl HS1.out).mono ?_; rintro e w2 ⟨rfl, hb2⟩
        replace q1 := cell_later hb2 q1
        replace q2 := cell_later hb2 q2
        have rd2 := rd1.up hb2
        have re2 := re1.up hb2
        have T2 := bs T1 hb2
        clear rd1 re1 hb2
        go_wp2_with fail
        refine (isAscending_any E ce ks i j true _ re2 HO2.out hij hj2 hl' HS2.out).mono ?_; rintro e w3 ⟨rfl, hb3⟩
        replace q1 := cell_later hb3 q1
        replace q2 := cell_later hb3 q2
        have rd3 := rd2.up hb3
        have re3 := re2.up hb3
        have T3 := bs T2 hb3
        clear rd2 re2 hb3 e0
        go_wp2_with fail
        refine (MatchDecks1_any w.heap.size true D c hs E ce ks i j _ q1 q2 rd3 re3 hij HJ1.out HJ2.out hl hl').mono ?_; rintro e w4 ⟨A1, c1, g1, rfl, hc1, p1, hb4⟩
        have HA1 := Lib.hid hc1
        clear hc1
        go_wp2_with fail
        refine (MatchDecks1_any w.heap.size true E ce ks D c hs i j _ (cell_later hb4 q1) (cell_later hb4 q2) (re3.up hb4) (rd3.up hb4) hij HJ2.out HJ1.out hl' hl).mono ?_; rintro e w5 ⟨A2, c2, g2, rfl, hc2, p2, hb5⟩
        have HA2 := Lib.hid hc2
        clear hc2
        have T35 := bs hb4 hb5
        go_wp2_with fail
        refine (MatchDecks1_any w.heap.size false D c hs E ce ks i j _ (cell_later T35 q1) (cell_later T35 q2) (rd3.up T35) (re3.up T35) hij HJ1.out HJ2.out hl hl').mono ?_; rintro e w6 ⟨A3, c3, g3, rfl, hc3, p3, hb6⟩
        have HA3 := Lib.hid hc3
        clear hc3
        have T36 := bs T35 hb6
        go_wp2_with fail
        refine (MatchDecks1_any w.heap.size false E ce ks D c hs i j _ (cell_later T36 q1) (cell_later T36 q2) (re3.up T36) (rd3.up T36) hij HJ2.out HJ1.out hl' hl).mono ?_; rintro e w7 ⟨A4, c4, g4, rfl, hc4, p4, hb7⟩
        have HA4 := Lib.hid hc4
        clear hc4
        have HOUT := Lib.hid (obdd_four (lo := w.heap.size) (eE := 24) ⟨A1, c1, g1, w3.heap.size, w4.heap.size⟩ ⟨A2, c2, g2, w4.heap.size, w5.heap.size⟩ ⟨A3, c3, g3, w5.heap.size, w6.heap.size⟩ ⟨A4, c4, g4, w6.heap.size, w7.heap.size⟩ (((p1.bs hb5).bs hb6).bs hb7) ((p2.bs hb6).bs hb7) (p3.bs hb7) p4 T3.size hb4.size (Nat.le_refl _) hb5.size (Nat.le_refl _) hb6.size (Nat.le_refl _) hb7.size (Nat.le_refl _))
        have T7 := bs (bs T3 T36) hb7
        go_wp2
        go_ret2
        exact ⟨_, 4, [⟨A1, c1, g1, w3.heap.size, w4.heap.size⟩, ⟨A2, c2, g2, w4.heap.size, w5.heap.size⟩, ⟨A3, c3, g3, w5.heap.size, w6.heap.size⟩, ⟨A4, c4, g4, w6.heap.size, w7.heap.size⟩], ret_dd HC.out.symm, by rw [HR.out]; simp only [decks, List.map_cons, List.map_nil]; rw [HA1.out, HA2.out, HA3.out, HA4.out], HOUT.out, ba T7 _⟩
      · have HS2 := Lib.hid (show false = decide ((stepsL (cards ks) (i : Int) (j : Int) (cards ks).length).length = 0) by rw [decide_eq_false s2])
        have HC := Lib.hid (HC6.out (fun h => s2 h.2))
        have HR := Lib.hid (mtR_1 (L := cards hs) (M := cards ks) (a := (i : Int)) (b := (j : Int)) (by rw [HC.out]; decide))
        clear s1 s2 HC0 HC6
        go_enter Try.func37, Try.ntmps37
        go_wp2_with fail
        rw [← HW.out]
        refine HCO.out.mono ?_; rintro e w1 ⟨rfl, hb1⟩
        have e0 : colC [cards hs, cards ks] true [] (i : Int) (j : Int) = 0 := HZ.out
        have q1 := cell_later hb1 k1
        have q2 := cell_later hb1 k2
        have rd1 := rd.up hb1
        have re1 := re.up hb1
        have T1 := bs T0 hb1
        clear k1 k2 rd re hb1
        go_wp2_with fail
        refine (isAscending_any D c hs i j true _ rd1 HO1.out hij hj1 hl HS1.out).mono ?_; rintro e w2 ⟨rfl, hb2⟩
        replace q1 := cell_later hb2 q1
        replace q2 := cell_later hb2 q2
        go_wp2_with fail
        refine (isAscending_any E ce ks i j false _ (re1.up hb2) HO2.out hij hj2 hl' HS2.out).mono ?_; rintro e w3 ⟨rfl, hb3⟩
        clear e0
        go_wp2
        go_ret2
        exact ⟨none, 0, [], ret_dd HC.out.symm, HR.out.symm, ObDD.nil _ _ _ _ _ _, bs (bs T1 hb2) hb3⟩
    · have HS1 := Lib.hid (show false = decide ((stepsL (cards hs) (i : Int) (j : Int) (cards hs).length).length = 0) by rw [decide_eq_false s1])
      have HC := Lib.hid (HC6.out (fun h => s1 h.1))
      have HR := Lib.hid (mtR_1 (L := cards hs) (M := cards ks) (a := (i : Int)) (b := (j : Int)) (by rw [HC.out]; decide))
      clear s1 HC0 HC6
      go_enter Try.func37, Try.ntmps37
      go_wp2_with fail
      rw [← HW.out]
      refine HCO.out.mono ?_; rintro e w1 ⟨rfl, hb1⟩
      have e0 : colC [cards hs, cards ks] true [] (i : Int) (j : Int) = 0 := HZ.out
      have q1 := cell_later hb1 k1
      have q2 := cell_later hb1 k2
      have rd1 := rd.up hb1
      have re1 := re.up hb1
      have T1 := bs T0 hb1
      clear k1 k2 rd re hb1
      go_wp2_with fail
      refine (isAscending_any D c hs i j false _ rd1 HO1.out hij hj1 hl HS1.out).mono ?_; rintro e w2 ⟨rfl, hb2⟩
      clear e0
      go_wp2
      go_ret2
      exact ⟨none, 0, [], ret_dd HC.out.symm, HR.out.symm, ObDD.nil _ _ _ _ _ _, bs T1 hb2⟩
  · have HC := Lib.hid (mtC_e hz)
    have HR := Lib.hid (mtR_1 (L := cards hs) (M := cards ks) (a := a) (b := b) (by rw [HC.out]; exact hz))
    have e1 := bne_t hz
    clear hz
    go_enter Try.func37, Try.ntmps37
    go_wp2_with fail
    rw [← HW.out]
    refine HCO.out.mono ?_; rintro e w1 ⟨rfl, hb1⟩
    go_wp2
    go_ret2
    exact ⟨none, 0, [], ret_dd HC.out.symm, HR.out.symm, ObDD.nil _ _ _ _ _ _, bs T0 hb1⟩
end Go.Proofs.Ytdppmlchabogaaa

/-! ### Two decks that grow side by side: an append to one leaves the other as it was. -/
namespace Go.Proofs.Ytdppmlchabogaaa
open Go.RowKit

theorem obd_other {w w' : World} {lo hi lo' size' n' m' c' c : Nat} {eD eC : TypeId} {D A' : Option Addr} {hs : List Hd} {ys : List Value} (h : ObD w lo hi eD eC D c hs) (h' : w.ownsRow lo' eD size' (.slice A' m' c') n' ys) (hg : w.grownBy w' (Value.slice A' m' c').ownBlock) (hne : eC ≠ eD)
    (hrow : (Value.slice D hs.length c).ownBlock = none ∨ (Value.slice D hs.length c).ownBlock ≠ (Value.slice A' m' c').ownBlock) : ObD w' lo hi eD eC D c hs :=
  ⟨h.row.kept hg hrow, fun x hx => (h.card x hx).kept hg (own_ne (h.card x hx).1 h' hne), h.apart⟩
end Go.Proofs.Ytdppmlchabogaaa

/-! ### MatchDecks in the reference: two decks that grow side by side. -/
namespace Go.Proofs.Ytdppmlchabogaaa
open Go.RowKit

/-- Behind k cards: those that are chosen, and the others. -/
def MtR (hs : List Hd) (p : List Int → Bool) (w wr : World) (o1 o2 q : Value) : Prop := ∃ (k g1 c1 g2 c2 : Nat) (ys ns : List Hd), k ≤ hs.length ∧ q = .int .i64 k ∧ o1 = .slice (some ⟨g1, 0, none⟩) ys.length c1 ∧ o2 = .slice (some ⟨g2, 0, none⟩) ns.length c2 ∧ g1 ≠ g2 ∧ g1 < wr.heap.size ∧ g2 < wr.heap.size ∧
  ys.length ≤ k ∧ ns.length ≤ k ∧ cards ys = ((cards hs).take k).filter p ∧ cards ns = ((cards hs).take k).filter (fun x => !p x) ∧
  ObD wr w.heap.size wr.heap.size 37 2 (some ⟨g1, 0, none⟩) c1 ys ∧ ObD wr w.heap.size wr.heap.size 37 2 (some ⟨g2, 0, none⟩) c2 ns ∧ Below w.heap.size w wr

theorem keep_mt_yes {L : List (List Int)} {a b : Int} {M : List (List Int)} : L.filter (fun x => M.any (mtB a b x)) = keep (mtP a b M true) L := by
  unfold keep
  congr 1
  funext x
  unfold mtP
  cases M.any (mtB a b x) <;> rfl
theorem keep_mt_no {L : List (List Int)} {a b : Int} {M : List (List Int)} : L.filter (fun x => !M.any (mtB a b x)) = keep (mtP a b M false) L := by
  unfold keep
  congr 1
  funext x
  unfold mtP
  cases M.any (mtB a b x) <;> rfl
theorem mt_hasD {L M : List (List Int)} {i j : Nat} (hL : deckOk L = true) (hM : deckOk M = true) (hij : i < j) (hj : j ≤ deckW L) (hj' : j ≤ deckW M) (hvL : haveF L (i : Int) (j : Int) = true) (hvM : haveF M (i : Int) (j : Int) = true) :
    ∀ x ∈ L, M.any (mtB (i : Int) (j : Int) x) = (keysL M (i : Int) (j : Int)).any (fun s => decide (s = textL (part x (i : Int) (j : Int)))) := by
  intro x hx
  obtain ⟨k, hk, rfl⟩ := List.mem_iff_getElem.1 hx
  exact (mt_has hM hij hj' hvM (haveF_at hvL hk) (part_deck hL hij hj hk).1).symm
theorem rdd_four {w : World} {g : Nat} {d1 d2 d3 d4 : Dk} (hg : g = w.heap.size) {e : TypeId} (h1 : RdD w w.heap.size d1.a d1.hs) (h2 : RdD w w.heap.size d2.a d2.hs) (h3 : RdD w w.heap.size d3.a d3.hs) (h4 : RdD w w.heap.size d4.a d4.hs) (k1 : d1.hs.length ≤ d1.c) (k2 : d2.hs.length ≤ d2.c) (k3 : d3.hs.length ≤ d3.c) (k4 : d4.hs.length ≤ d4.c) :
    RdDD (w.alloc (.cells #[.slice d1.a d1.hs.length d1.c, .slice d2.a d2.hs.length d2.c, .slice d3.a d3.hs.length d3.c, .slice d4.a d4.hs.length d4.c] e)) (w.alloc (.cells #[.slice d1.a d1.hs.length d1.c, .slice d2.a d2.hs.length d2.c, .slice d3.a d3.hs.length d3.c, .slice d4.a d4.hs.length d4.c] e)).heap.size (some ⟨g, 0, none⟩) [d1, d2, d3, d4] := by
  have hrow : (w.alloc (.cells #[.slice d1.a d1.hs.length d1.c, .slice d2.a d2.hs.length d2.c, .slice d3.a d3.hs.length d3.c, .slice d4.a d4.hs.length d4.c] e)).ownsRow w.heap.size e 1 (.slice (some ⟨g, 0, none⟩) 4 4) 4 (dheads [d1, d2, d3, d4]) := own_lit w _ 4 hg (Nat.le_refl _) (by omega) rfl
  refine ⟨Rd.own hrow, ?_, ?_⟩
  · intro d hd
    simp only [List.mem_cons, List.not_mem_nil, or_false] at hd
    rcases hd with rfl | rfl | rfl | rfl
    · exact h1.a1 _
    · exact h2.a1 _
    · exact h3.a1 _
    · exact h4.a1 _
  · intro d hd
    simp only [List.mem_cons, List.not_mem_nil, or_false] at hd
    rcases hd with rfl | rfl | rfl | rfl
    · exact k1
    · exact k2
    · exact k3
    · exact k4
end Go.Proofs.Ytdppmlchabogaaa

/-! ### MatchDecks in the reference. -/
namespace Go.Proofs.Ytdppmlchabogaaa
open Go.RowKit

/-- Decks that are only read, all in blocks below hi. -/
def RoDD (w : World) (_lo hi : Nat) (_eE _eD _eC : TypeId) (D : Option Addr) (c : Nat) (ds : List Dk) : Prop := RdDD w hi D ds ∧ hi ≤ w.heap.size ∧ ds.length ≤ c
section
variable {w w' : World} {lo hi : Nat} {eE eD eC : TypeId} {D : Option Addr} {c : Nat} {ds : List Dk}
theorem RoDD.bs (h : RoDD w lo hi eE eD eC D c ds) (hb : Below w.heap.size w w') : RoDD w' lo hi eE eD eC D c ds := ⟨h.1.bs h.2.1 hb, Nat.le_trans h.2.1 hb.size, h.2.2⟩
theorem RoDD.chg {l r : Nat} (h : RoDD w lo hi eE eD eC D c ds) (k : Chg l r w w') (ho : hi ≤ l) : RoDD w' lo hi eE eD eC D c ds := ⟨k.rdDD h.1 ho h.2.1, Nat.le_trans h.2.1 k.size, h.2.2⟩
theorem RoDD.rd (h : RoDD w lo hi eE eD eC D c ds) : RdDD w w.heap.size D ds := h.1.more h.2.1
end
theorem steps_ge {L : List (List Int)} {a b : Int} {n : Nat} (h : (stepsL L a b n).length = 0) : ¬ (0 : Int) ≤ stepF L a b n := by have := stepF_lt.2 h; omega
theorem steps_ge' {L : List (List Int)} {a b : Int} {n : Nat} (h : ¬ (stepsL L a b n).length = 0) : (0 : Int) ≤ stepF L a b n := by
  rcases Int.lt_or_le (stepF L a b n) 0 with h1 | h1
  · exact absurd (stepF_lt.1 h1) h
  · exact h1

theorem keep_sum (p : List Int → Bool) {L : List (List Int)} (h : deckOk L = true) : (keep p L).length + ((keep p L).map List.length).sum ≤ 840 := by
  have h1 := deckOk_sum h
  have h2 := sum_filter_le (fun x => !p x) L
  have h3 : (keep p L).length ≤ L.length := List.length_filter_le _ _
  have h4 : ((keep p L).map List.length).sum ≤ (L.map List.length).sum := h2
  omega
theorem mtR_bound (L M : List (List Int)) (a b : Int) {ds : List Dk} (h : decks ds = mtR L M a b) : ds.length + dtot ds ≤ 1048576 := by
  have e : dtot ds = ((decks ds).map fun L => L.length + (L.map List.length).sum).sum := by
    simp only [dtot, decks, List.map_map]
    congr 1
    apply List.map_congr_left
    intro d _
    simp [tot, cards, Function.comp_def]
  have e2 : ds.length = (decks ds).length := (decks_length ds).symm
  rw [e, e2, h]
  by_cases hz : mtC L M a b = 0
  · rw [mtR_0 hz]
    have hcol : colC [L, M] true [] a b = 0 := by
      by_cases h1 : colC [L, M] true [] a b = 0
      · exact h1
      · rw [mtC_e h1] at hz; exact absurd hz h1
    obtain ⟨o1, o2, _⟩ := colC_two hcol
    simp only [List.map_cons, List.map_nil, List.sum_cons, List.sum_nil, List.length_cons, List.length_nil]
    have k1 := keep_sum (mtP a b M true) o1
    have k2 := keep_sum (mtP a b L true) o2
    have k3 := keep_sum (mtP a b M false) o1
    have k4 := keep_sum (mtP a b L false) o2
    omega
  · rw [mtR_1 hz]; simp
end Go.Proofs.Ytdppmlchabogaaa
