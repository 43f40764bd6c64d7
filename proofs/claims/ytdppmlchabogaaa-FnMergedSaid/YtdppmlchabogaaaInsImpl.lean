/- InsertCard; in the program (begun). -/
import Derived.Test.YtdppmlchabogaaaInsSp
import Derived.Test.YtdppmlchabogaaaMergeImpl
import Derived.Deep.RegionHeld3
import Derived.Deep.DeepCutAuto
namespace Go.Proofs.Ytdppmlchabogaaa
open Go.RowKit

theorem colC_bad {L : List (List Int)} {xs : List Int} {a b : Int} (v : Bool) (h : cardOk xs = false) : colC [L, [xs]] v [] a b = colC [L, [xs]] true [] a b := by
  have hd : deckOk [xs] = false := by
    rcases Bool.eq_false_or_eq_true (deckOk [xs]) with h1 | h1
    · have := (deckOk_card h1 (k := 0) (by simp)).1
      rw [show [xs][0] = xs from rfl, h] at this
      exact absurd this (by decide)
    · exact h1
  have ha : [L, [xs]].all deckOk = false := by simp [hd]
  rw [colC_1 ha, colC_1 ha]
/-- The code of a card among a deck. -/
theorem coll_ins (a b : Int) (g p : Nat) (D : Option Addr) (c : Nat) (hs : List Hd) (A : Option Addr) (cc : Nat) (xs : List Int) (v : Bool) (w : World) (hv : v = cardOk xs) (h : w.cell? ⟨g, 0, none⟩ = some (.slice D hs.length c)) (h' : w.cell? ⟨g, 1, none⟩ = some (.slice (some ⟨p, 0, none⟩) 1 1)) (hp : w.cell? ⟨p, 0, none⟩ = some (.slice A xs.length cc))
    (ha : RdD w w.heap.size D hs) (hx : Rd w w.heap.size 1 A xs.length (ints xs)) (hc : hs.length ≤ c) (hcc : xs.length ≤ cc) (hl : hs.length + tot hs ≤ 1048576) (hl' : xs.length ≤ 1048576) :
    Calls Try.prog 127 #[.agg #[.int .i64 a, .int .i64 b], .bool v, .slice none 0 0, .slice (some ⟨g, 0, none⟩) 2 2] w fun e w' => e = .returned (.int .i64 (colC [cards hs, [xs]] true [] a b)) ∧ Below w.heap.size w w' := by
  have re := rdd_card hp hx hcc
  have hlx : 1 + tot [(⟨A, cc, xs⟩ : Hd)] ≤ 1048577 := by simp [tot]; omega
  cases v with
  | true => exact collate2_any a b g D (some ⟨p, 0, none⟩) c 1 hs [⟨A, cc, xs⟩] w h h' ha re hc (Nat.le_refl _) hl (by have h1 := (cardOk_len hv.symm).2; simp [tot]; omega)
  | false =>
    have h2 := collateCode_bad a b none 0 [] (some ⟨g, 0, none⟩) 2 [⟨D, c, hs, 0, 0⟩, ⟨some ⟨p, 0, none⟩, 1, [⟨A, cc, xs⟩], 0, 0⟩] w (rdd_two h h' ha re hc (Nat.le_refl _)) (by simp) (by simp)
      (fun k hk => by
        match k, hk with
        | 0, _ => exact Nat.le_trans hl (by omega)
        | 1, _ => exact hlx)
      ⟨rfl, fun h => absurd h (by simp)⟩ (by simp) (fun k h => absurd h (by simp))
    have h3 := colC_bad (L := cards hs) (a := a) (b := b) false hv.symm
    rw [← h3]
    exact h2

theorem rd_cell {w : World} {g : Nat} {v : Value} (h : w.cell? ⟨g, 0, none⟩ = some v) : Rd w w.heap.size 1 (some ⟨g, 0, none⟩) 1 [v] :=
  ⟨rfl, fun _ => ⟨g, 0, rfl, World.block_lt_of_cell? _ _ h, fun j u hu => by
    match j, hu with
    | 0, hu =>
      have e : ([v] : List Value)[0]? = some v := rfl
      rw [e] at hu
      injection hu with hu
      subst hu
      exact h
    | j + 1, hu => exact absurd hu (by simp)⟩⟩
/-- A deck of the call's own, to whose row one card's header was appended. -/
theorem rdd_snoc {w w' : World} {lo hi : Nat} {D : Option Addr} {c : Nat} {gs : List Hd} (h : ObD w lo hi 37 2 D c gs) {B : Option Addr} {d : Nat} {xs : List Int} {l1 h1 : Nat} (hc : Ob w l1 h1 2 1 (.slice B xs.length d) xs.length (ints xs)) {G : Option Addr} {cap n : Nat} (hn : gs.length + 1 = n)
    (hrow : w'.ownsRow lo 37 1 (.slice G n cap) n (heads gs ++ [.slice B xs.length d])) (hg : w.grownBy w' (Value.slice D gs.length c).ownBlock) : RdD w' w'.heap.size G (gs ++ [⟨B, d, xs⟩]) := by
  refine ⟨?_, ?_, ?_⟩
  · rw [heads_append, List.length_append, List.length_singleton, hn]
    exact Rd.own hrow
  · intro x hx
    rcases List.mem_append.1 hx with hx | hx
    · exact ((h.card x hx).kept hg (own_ne (h.card x hx).1 h.row.1 (by decide))).rd
    · rw [List.mem_singleton] at hx
      subst hx
      exact (hc.kept hg (own_ne hc.1 h.row.1 (by decide))).rd
  · intro x hx
    rcases List.mem_append.1 hx with hx | hx
    · exact (own_cap (h.card x hx).1).1
    · rw [List.mem_singleton] at hx
      subst hx
      exact (own_cap hc.1).1

set_option maxRecDepth 20000 in
set_option maxHeartbeats 8000000 in
theorem InsertCard_any (D : Option Addr) (c : Nat) (hs : List Hd) (L : List (List Int)) (A : Option Addr) (cc : Nat) (xs : List Int) (a b : Int) (w : World) (hd : RdD w w.heap.size D hs) (hL : cards hs = L) (hl : hs.length + tot hs ≤ 1048576) (hc : hs.length ≤ c) (he : Rd w w.heap.size 1 A xs.length (ints xs)) (hl' : xs.length ≤ 1048576) (hc' : xs.length ≤ cc) :
    Calls Try.prog 26 #[.slice D hs.length c, .agg #[.slice A xs.length cc], .agg #[.int .i64 a, .int .i64 b]] w fun e w' => ∃ F cf gs, e = .returned (.tuple #[.slice F gs.length cf, .int .i64 (mgeC L [xs] a b)]) ∧ cards gs = mgeR L [xs] a b ∧ ObD w' w.heap.size w'.heap.size 37 2 F cf gs ∧ Below w.heap.size w w' := by
  obtain ⟨z0, hz0, hz1, hz2, hz3⟩ := info_parts info_cardD
  subst hL
  have HCA := Lib.hid (cards_length hs)
  obtain ⟨W, hW⟩ : ∃ W, W = (w.alloc (.cells #[.slice A xs.length cc] 37)).alloc (.cells #[.int .i64 a, .int .i64 b] 27) := ⟨_, rfl⟩
  have T0 : Below w.heap.size w W := by rw [hW]; exact ba (ba (b0 w) _) _
  have rd : RdD W W.heap.size D hs := by rw [hW]; exact (hd.a1 _).a1 _
  have rx : Rd W W.heap.size 1 A xs.length (ints xs) := by rw [hW]; exact (he.a1 _).a1 _
  have kc : W.cell? ⟨w.heap.size, 0, none⟩ = some (.slice A xs.length cc) := by rw [hW]; exact cell_alloc (cell_new rfl rfl) _
  have k1 : W.cell? ⟨w.heap.size + 1, 0, none⟩ = some (.int .i64 a) := by rw [hW]; exact cell_new (by simp) rfl
  have k2 : W.cell? ⟨w.heap.size + 1, 1, none⟩ = some (.int .i64 b) := by rw [hW]; exact cell_new (by simp) rfl
  have HW := Lib.hid hW
  clear hW hd he
  have HVC := Lib.hid (fun W x => ValidCard_any A cc xs W x (show xs.length ≤ 1048576 by omega))
  obtain ⟨v, hv⟩ : ∃ v, v = cardOk xs := ⟨_, rfl⟩
  have HV := Lib.hid hv
  rw [← hv] at HVC
  clear hv
  have HCO := Lib.hid (fun g p W h h' hp ha hx => coll_ins a b g p D c hs A cc xs v W HV.out h h' hp ha hx hc hc' hl hl')
  go_enter Try.func26, Try.ntmps26
  go_wp2_with fail
  rw [← HW.out]
  go_cut [8] (fun s8 wx => s8 = .int .i64 (colC [cards hs, [xs]] true [] a b) ∧ Below W.heap.size W wx)
  case first =>
    have kc0 := Lib.hid kc
    have k10 := Lib.hid k1
    have k20 := Lib.hid k2
    go_region_held3 (fun w' => w'.cell? ⟨w.heap.size, 0, none⟩ = some (.slice A xs.length cc) ∧ w'.cell? ⟨w.heap.size + 1, 0, none⟩ = some (.int .i64 a) ∧ w'.cell? ⟨w.heap.size + 1, 1, none⟩ = some (.int .i64 b)) (first | exact ⟨kc, k1, k2⟩ | exact ⟨cell_alloc kc _, cell_alloc k1 _, cell_alloc k2 _⟩ | exact ⟨cell_alloc (cell_alloc kc _) _, cell_alloc (cell_alloc k1 _) _, cell_alloc (cell_alloc k2 _) _⟩ | go_keep)
      (first
        | (go_at_call 131; refine (HVC.out _ ?_).mono ?_; (first | exact rx | exact rx.drew | exact rx.a1 _ | exact (rx.a1 _).drew | exact (rx.drew).a1 _ | exact (rx.a1 _).a1 _ | exact ((rx.a1 _).a1 _).drew); rintro e w2 ⟨rfl, hb2⟩; have B2 : Below W.heap.size W w2 := (by first | exact bs (b0 W).drew hb2 | exact bs (b0 W) hb2 | exact bs (ba (b0 W) _).drew hb2 | exact bs (ba (b0 W) _) hb2 | exact bs (ba (ba (b0 W) _) _).drew hb2 | exact bs (ba (ba (b0 W) _) _) hb2); replace kc := cell_later B2 kc0.out; replace k1 := cell_later B2 k10.out; replace k2 := cell_later B2 k20.out; have rd2 := rd.up B2; have rx2 := rx.up B2)
        | (go_at_call 127; refine (HCO.out _ w2.heap.size _ ?_ ?_ ?_ ?_ ?_).mono ?_; (first | exact cell_new (by first | rfl | simp) rfl | exact cell_later hb2 (cell_new (by first | rfl | simp) rfl)); (first | exact cell_new (by first | rfl | simp) rfl | exact cell_later hb2 (cell_new (by first | rfl | simp) rfl)); (first | exact cell_alloc (cell_new (by first | rfl | simp) rfl) _ | exact cell_later hb2 (cell_alloc (cell_new (by first | rfl | simp) rfl) _) | exact cell_alloc (cell_later hb2 (cell_new (by first | rfl | simp) rfl)) _); (first | exact (rd2.a1 _).a1 _ | exact rd2.a1 _ | exact rd2); (first | exact (rx2.a1 _).a1 _ | exact rx2.a1 _ | exact rx2); rintro e w3 ⟨rfl, hb3⟩; have B3 : Below W.heap.size W w3 := (by first | exact bs (ba (ba B2 _) _) hb3 | exact bs (ba B2 _) hb3 | exact bs B2 hb3); replace kc := cell_later B3 kc0.out; replace k1 := cell_later B3 k10.out; replace k2 := cell_later B3 k20.out)
        | (go_at_call 127; refine (HCO.out _ W.heap.size _ ?_ ?_ ?_ ?_ ?_).mono ?_; (first | exact cell_new (by first | rfl | simp) rfl | exact cell_later hb2 (cell_new (by first | rfl | simp) rfl)); (first | exact cell_new (by first | rfl | simp) rfl | exact cell_later hb2 (cell_new (by first | rfl | simp) rfl)); (first | exact cell_alloc (cell_new (by first | rfl | simp) rfl) _ | exact cell_later hb2 (cell_alloc (cell_new (by first | rfl | simp) rfl) _) | exact cell_alloc (cell_later hb2 (cell_new (by first | rfl | simp) rfl)) _); (first | exact (rd2.a1 _).a1 _ | exact rd2.a1 _ | exact rd2); (first | exact (rx2.a1 _).a1 _ | exact rx2.a1 _ | exact rx2); rintro e w3 ⟨rfl, hb3⟩; have B3 : Below W.heap.size W w3 := (by first | exact bs (ba (ba B2 _) _) hb3 | exact bs (ba B2 _) hb3 | exact bs B2 hb3); replace kc := cell_later B3 kc0.out; replace k1 := cell_later B3 k10.out; replace k2 := cell_later B3 k20.out))
    all_goals go_wp2_with fail
    all_goals go_meet
    all_goals exact ⟨rfl, B3⟩
  obtain ⟨w1, hw1⟩ : ∃ x : World, x = wc := ⟨_, rfl⟩
  subst hw1
  obtain ⟨rfl, hb1⟩ := hcut
  have kc1 := cell_later hb1 kc
  have q1 := cell_later hb1 k1
  have q2 := cell_later hb1 k2
  have rd1 := rd.up hb1
  have rx1 := rx.up hb1
  have T1 := bs T0 hb1
  clear hb1 kc k1 k2 rd rx T0 HCO HVC
  by_cases hz : colC [cards hs, [xs]] true [] a b = 0
  · obtain ⟨o1, o2, f1, f2, v1, v2⟩ := colC_two hz
    obtain ⟨i, j, rfl, rfl, hij, hj1⟩ := fieldOk_nat f1
    have hj2 : j ≤ deckW [xs] := by have := fieldOk_true f2; omega
    have HZ := Lib.hid hz
    have HO1 := Lib.hid o1
    have HO2 := Lib.hid o2
    have HJ2 := Lib.hid hj2
    have e0 : colC [cards hs, [xs]] true [] (i : Int) (j : Int) = 0 := hz
    have S2 : (stepsL [xs] (i : Int) (j : Int) [xs].length).length = 0 := by
      rw [show [xs].length = 1 from rfl, stepsL_one]
      rfl
    clear hz f1 f2 v1 v2 hj2
    rcases (show (¬ 0 < hs.length ∧ clashB (cards hs) [xs] = false) ∨ (0 < hs.length ∧ deckW (cards hs) = xs.length ∧ clashB (cards hs) [xs] = false) ∨ (0 < hs.length ∧ deckW (cards hs) ≠ xs.length ∧ clashB (cards hs) [xs] = true) from by
        have e1 : deckW [xs] = xs.length := rfl
        unfold clashB
        rw [cards_length, e1]
        by_cases y1 : 0 < hs.length
        · right
          by_cases y3 : deckW (cards hs) = xs.length
          · exact .inl ⟨y1, y3, by simp [y3]⟩
          · exact .inr ⟨y1, y3, by simp [y1, y3]⟩
        · exact .inl ⟨y1, by simp [y1]⟩) with ⟨y1, hcl⟩ | ⟨y1, y3, hcl⟩ | ⟨y1, y3, hcl⟩
    · have i1 : ¬ (0 : Int) < (hs.length : Int) := by omega
      have HCLF := Lib.hid hcl
      clear hcl
      by_cases s1 : (stepsL (cards hs) (i : Int) (j : Int) (cards hs).length).length = 0
      · have HS1 := Lib.hid (show true = decide ((stepsL (cards hs) (i : Int) (j : Int) (cards hs).length).length = 0) by rw [decide_eq_true s1])
        by_cases h40 : 40 < hs.length + 1
        · exact absurd h40 (by omega)
        · have HC := Lib.hid (mgeC_0 HZ.out HCLF.out ⟨s1, S2⟩ (by rw [HCA.out]; exact h40))
          have HR := Lib.hid (mgeR_0 HC.out)
          have HI8 := Lib.hid (show ((hs.length : Int) == 40) = false from beq_f (by omega))
          have HAP := Lib.hid (deckOk_append o1 o2 HCLF.out (by rw [HCA.out]; simp only [List.length_singleton]; omega))
          have hsum : hs.length + 1 ≤ 40 := by omega
          have HTS := Lib.hid (show tot hs ≤ 1000 ∧ xs.length ≤ 1000 by
            have e1 := deckOk_sum o1
            have e2 := deckOk_sum o2
            rw [← tot_of_cards (gs := hs) rfl] at e1
            simp at e2
            omega)
          clear s1 S2 h40 o1 o2
          go_wp2_with fail
          have lc := fun x : Later w1 => lat_cell x kc1
          refine wp_region_later (by kernel_rfl) (by kernel_rfl) ?_
          repeat (go_big_quiet_step ((first | (go_at_call 128; exact lat_call (deckColumns_any D c hs _ (rd1.up (Later.below _)) hl)) | (go_at_call 132; exact lat_call (columns_any A xs.length cc _ (by omega))))))
          refine wpQuiet_nil ?_
          intro u1 hv1
          replace rd1 := rd1.up hv1
          replace rx1 := rx1.up hv1
          replace kc1 := cell_later hv1 kc1
          replace q1 := cell_later hv1 q1
          replace q2 := cell_later hv1 q2
          replace T1 := bs T1 hv1
          clear hv1 lc
          go_wp2_with fail
          refine (isAscending_any D c hs i j true _ rd1 HO1.out hij hj1 hl HS1.out).mono ?_; rintro e w2 ⟨rfl, hb2⟩
          have i8 := HI8.out
          have kc2 := cell_later hb2 kc1
          have q3 := cell_later hb2 q1
          have q4 := cell_later hb2 q2
          have rd2 := rd1.up hb2
          have rx2 := rx1.up hb2
          have T2 := bs T1 hb2
          clear kc1 q1 q2 rd1 rx1 hb2 T1
          go_wp2_with fail
          have hzw0 : w.heap.size < w2.heap.size := World.block_lt_of_cell? _ _ kc2
          have hzw1 : w.heap.size + 1 < w2.heap.size := World.block_lt_of_cell? _ _ q3
          go_region_held3 (fun w' => w'.cell? ⟨w.heap.size, 0, none⟩ = some (.slice A xs.length cc) ∧ w'.cell? ⟨w.heap.size + 1, 0, none⟩ = some (.int .i64 (i : Int)) ∧ w'.cell? ⟨w.heap.size + 1, 1, none⟩ = some (.int .i64 (j : Int))) (first | exact ⟨kc2, q3, q4⟩ | exact ⟨cell_alloc kc2 _, cell_alloc q3 _, cell_alloc q4 _⟩ | go_keep)
            (first
              | (go_at_call 130; refine (newDeck_any D c hs _ ?_ hl).mono ?_; (first | exact rd2 | exact rd2.drew | exact rd2.drewN _); rintro e w5 ⟨D5, c5, g5, rfl, hcc5, ho5, hb5⟩; have B5W : Below w2.heap.size w2 w5 := (by first | exact bs (b0 w2) hb5 | exact bs (b0 w2).drew hb5 | exact bs (below_drewN (b0 w2) _) hb5); have HC5 := Lib.hid hcc5; have hlen5 : g5.length ≤ 40 := (by have := (cards_same hcc5).1; omega); have O5 : ObD w5 w2.heap.size w5.heap.size 37 2 D5 c5 g5 := ho5; replace kc2 := cell_later B5W kc2; replace q3 := cell_later B5W q3; replace q4 := cell_later B5W q4; have rx5 := rx2.up B5W; clear hcc5)
              | (go_at_call 133; refine (newCard_any A cc xs _ ?_ (by omega)).mono ?_; (first | exact rx5 | exact rx5.drew); rintro e w6 ⟨B6, d6, rfl, ho6, hb6⟩; have C6 : Ob w6 w2.heap.size w6.heap.size 2 1 (.slice B6 xs.length d6) xs.length (ints xs) := (Ob.of ho6).mono B5W.size (Nat.le_refl _); have B6W := bs B5W hb6; have O6 := O5.bs hb6; replace kc2 := cell_later hb6 kc2; replace q3 := cell_later hb6 q3; replace q4 := cell_later hb6 q4)
              | (go_at_call 133; refine (newCard_any A cc xs _ ?_ (by omega)).mono ?_; (first | exact rx2 | exact rx2.drew); rintro e w6 ⟨B6, d6, rfl, ho6, hb6⟩; have B6W : Below w2.heap.size w2 w6 := (by first | exact bs (b0 w2) hb6 | exact bs (b0 w2).drew hb6 | exact bs (below_drewN (b0 w2) _) hb6); have C6 : Ob w6 w2.heap.size w6.heap.size 2 1 (.slice B6 xs.length d6) xs.length (ints xs) := (Ob.of ho6); have rd6 := rd2.up B6W; replace kc2 := cell_later B6W kc2; replace q3 := cell_later B6W q3; replace q4 := cell_later B6W q4)
              | (go_at_call 130; refine (newDeck_any D c hs _ ?_ hl).mono ?_; (first | exact rd6 | exact rd6.a1 _); rintro e w5 ⟨D5, c5, g5, rfl, hcc5, ho5, hb5⟩; have B56 : Below w6.heap.size w6 w5 := (by first | exact hb5 | exact bs (ba (b0 w6) _) hb5); have B5W := bs B6W B56; have HC5 := Lib.hid hcc5; have hlen5 : g5.length ≤ 40 := (by have := (cards_same hcc5).1; omega); have O5 : ObD w5 w2.heap.size w5.heap.size 37 2 D5 c5 g5 := ho5.mono (by first | exact B6W.size | exact Nat.le_trans B6W.size (by simp)) (Nat.le_refl _); replace kc2 := cell_later B56 kc2; replace q3 := cell_later B56 q3; replace q4 := cell_later B56 q4; clear hcc5)
              | (refine step_aps rfl (.tmp 42) (.tmp 45) 24 rfl w2.heap.size 37 z0 _ 1 24 Try.underlying24 hz0 hz1 hz2 hz3 rfl (by omega) D5 g5.length c5 (heads g5) _ rfl (O6.alloc _).row.1 _ (some ⟨w6.heap.size, 0, none⟩) 1 1 [.slice B6 xs.length d6] rfl (rd_cell (cell_new rfl rfl)) (fun u hu => by rw [List.mem_singleton] at hu; subst hu; rfl) (by omega) (by omega) (by first | exact B6W.size | exact B5W.size | exact Nat.le_trans B6W.size (by simp) | exact Nat.le_trans B5W.size (by simp)) ?_; intro G7 cap w7 hown7 hb7 hg7; have RJ := rdd_snoc (O6.alloc _) (C6.alloc _) rfl hown7 hg7; replace kc2 := (hb7.cell (p := ⟨w.heap.size, 0, none⟩) hzw0).trans (by first | exact kc2 | exact cell_alloc kc2 _); replace q3 := (hb7.cell (p := ⟨w.heap.size + 1, 0, none⟩) hzw1).trans (by first | exact q3 | exact cell_alloc q3 _); replace q4 := (hb7.cell (p := ⟨w.heap.size + 1, 1, none⟩) hzw1).trans (by first | exact q4 | exact cell_alloc q4 _); have B7W : Below w2.heap.size w2 w7 := (by first | exact (ba B6W _).trans hb7 | exact (ba B5W _).trans hb7 | exact B5W.trans hb7))
              | (refine step_aps rfl (.tmp 42) (.tmp 45) 24 rfl w2.heap.size 37 z0 _ 1 24 Try.underlying24 hz0 hz1 hz2 hz3 rfl (by omega) D5 g5.length c5 (heads g5) _ rfl (O5.alloc _).row.1 _ (some ⟨w5.heap.size, 0, none⟩) 1 1 [.slice B6 xs.length d6] rfl (rd_cell (cell_new rfl rfl)) (fun u hu => by rw [List.mem_singleton] at hu; subst hu; rfl) (by omega) (by omega) (by first | exact B6W.size | exact B5W.size | exact Nat.le_trans B6W.size (by simp) | exact Nat.le_trans B5W.size (by simp)) ?_; intro G7 cap w7 hown7 hb7 hg7; have RJ := rdd_snoc (O5.alloc _) ((C6.bs B56).alloc _) rfl hown7 hg7; replace kc2 := (hb7.cell (p := ⟨w.heap.size, 0, none⟩) hzw0).trans (by first | exact kc2 | exact cell_alloc kc2 _); replace q3 := (hb7.cell (p := ⟨w.heap.size + 1, 0, none⟩) hzw1).trans (by first | exact q3 | exact cell_alloc q3 _); replace q4 := (hb7.cell (p := ⟨w.heap.size + 1, 1, none⟩) hzw1).trans (by first | exact q4 | exact cell_alloc q4 _); have B7W : Below w2.heap.size w2 w7 := (by first | exact (ba B6W _).trans hb7 | exact (ba B5W _).trans hb7 | exact B5W.trans hb7))
              | (refine step_aps rfl (.tmp 42) (.tmp 45) 24 rfl w2.heap.size 37 z0 _ 1 24 Try.underlying24 hz0 hz1 hz2 hz3 rfl (by omega) D5 g5.length c5 (heads g5) _ rfl (O5).row.1 _ (some ⟨w6.heap.size, 0, none⟩) 1 1 [.slice B6 xs.length d6] rfl (rd_cell (cell_later hb5 (cell_new rfl rfl))) (fun u hu => by rw [List.mem_singleton] at hu; subst hu; rfl) (by omega) (by omega) (by first | exact B6W.size | exact B5W.size | exact Nat.le_trans B6W.size (by simp) | exact Nat.le_trans B5W.size (by simp)) ?_; intro G7 cap w7 hown7 hb7 hg7; have RJ := rdd_snoc (O5) ((C6.alloc _).bs hb5) rfl hown7 hg7; replace kc2 := (hb7.cell (p := ⟨w.heap.size, 0, none⟩) hzw0).trans (by first | exact kc2 | exact cell_alloc kc2 _); replace q3 := (hb7.cell (p := ⟨w.heap.size + 1, 0, none⟩) hzw1).trans (by first | exact q3 | exact cell_alloc q3 _); replace q4 := (hb7.cell (p := ⟨w.heap.size + 1, 1, none⟩) hzw1).trans (by first | exact q4 | exact cell_alloc q4 _); have B7W : Below w2.heap.size w2 w7 := (by first | exact (ba B6W _).trans hb7 | exact (ba B5W _).trans hb7 | exact B5W.trans hb7))
              | (go_at_call 117; refine (sortedBy_n (g5.length + 1) _ _ (g5 ++ [⟨B6, d6, xs⟩]) i j _ (List.length_append ..) ?_ ?_ hij ?_ ?_).mono ?_; (first | exact RJ | exact RJ.drew); (rw [cards_append, HC5.out]; exact HAP.out.1); (rw [cards_append, HC5.out]; exact HAP.out.2 j hj1 HJ2.out); (rw [List.length_append, tot_append, tot_cards HC5.out, show tot [(⟨B6, d6, xs⟩ : Hd)] = xs.length from by simp [tot], List.length_singleton]; have := HTS.out; omega); rintro e w8 ⟨F7, cf7, g7, rfl, hc7, ho7, hb8⟩; have B8W := bs B7W hb8; replace kc2 := cell_later hb8 kc2; replace q3 := cell_later hb8 q3; replace q4 := cell_later hb8 q4))
          all_goals go_wp2
          all_goals go_ret2
          all_goals exact ⟨F7, cf7, g7, ret_dd HC.out.symm, by rw [HR.out, hc7, cards_append, HC5.out]; rfl, ho7.mono (Nat.le_trans T2.size B7W.size) (Nat.le_refl _), bs T2 B8W⟩
      · have HS1 := Lib.hid (show false = decide ((stepsL (cards hs) (i : Int) (j : Int) (cards hs).length).length = 0) by rw [decide_eq_false s1])
        have HC := Lib.hid (mgeC_6 HZ.out HCLF.out (fun h => s1 h.1))
        have HR := Lib.hid (mgeR_1 (L := cards hs) (M := [xs]) (a := (i : Int)) (b := (j : Int)) (by rw [HC.out]; decide))
        clear s1 o1 o2
        go_wp2_with fail
        have lc := fun x : Later w1 => lat_cell x kc1
        refine wp_region_later (by kernel_rfl) (by kernel_rfl) ?_
        repeat (go_big_quiet_step ((first | (go_at_call 128; exact lat_call (deckColumns_any D c hs _ (rd1.up (Later.below _)) hl)) | (go_at_call 132; exact lat_call (columns_any A xs.length cc _ (by omega))))))
        refine wpQuiet_nil ?_
        intro u1 hv1
        replace rd1 := rd1.up hv1
        replace rx1 := rx1.up hv1
        replace kc1 := cell_later hv1 kc1
        replace q1 := cell_later hv1 q1
        replace q2 := cell_later hv1 q2
        replace T1 := bs T1 hv1
        clear hv1 lc
        go_wp2_with fail
        refine (isAscending_any D c hs i j false _ rd1 HO1.out hij hj1 hl HS1.out).mono ?_; rintro e w2 ⟨rfl, hb2⟩
        go_wp2
        go_ret2
        exact ⟨none, 0, [], ret_dd HC.out.symm, HR.out.symm, ObD.nil _ _ _ _ _, bs T1 hb2⟩
    · have i1 : (0 : Int) < (hs.length : Int) := by omega
      have i3 : ((deckW (cards hs) : Int) != (xs.length : Int)) = false := bne_f (by omega)
      have HCLF := Lib.hid hcl
      clear hcl
      by_cases s1 : (stepsL (cards hs) (i : Int) (j : Int) (cards hs).length).length = 0
      · have HS1 := Lib.hid (show true = decide ((stepsL (cards hs) (i : Int) (j : Int) (cards hs).length).length = 0) by rw [decide_eq_true s1])
        by_cases h40 : 40 < hs.length + 1
        · have HC := Lib.hid (mgeC_5 HZ.out HCLF.out ⟨s1, S2⟩ (by rw [HCA.out]; exact h40))
          have HR := Lib.hid (mgeR_1 (L := cards hs) (M := [xs]) (a := (i : Int)) (b := (j : Int)) (by rw [HC.out]; decide))
          have h41 : hs.length ≤ 40 := by have := deckOk_len o1; rw [cards_length] at this; exact this
          have HI8 := Lib.hid (show ((hs.length : Int) == 40) = true from beq_t (by omega))
          clear s1 S2 h40 h41 o1 o2
          go_wp2_with fail
          have lc := fun x : Later w1 => lat_cell x kc1
          refine wp_region_later (by kernel_rfl) (by kernel_rfl) ?_
          repeat (go_big_quiet_step ((first | (go_at_call 128; exact lat_call (deckColumns_any D c hs _ (rd1.up (Later.below _)) hl)) | (go_at_call 132; exact lat_call (columns_any A xs.length cc _ (by omega))))))
          refine wpQuiet_nil ?_
          intro u1 hv1
          replace rd1 := rd1.up hv1
          replace rx1 := rx1.up hv1
          replace kc1 := cell_later hv1 kc1
          replace q1 := cell_later hv1 q1
          replace q2 := cell_later hv1 q2
          replace T1 := bs T1 hv1
          clear hv1 lc
          go_wp2_with fail
          refine (isAscending_any D c hs i j true _ rd1 HO1.out hij hj1 hl HS1.out).mono ?_; rintro e w2 ⟨rfl, hb2⟩
          have i8 := HI8.out
          go_wp2
          go_ret2
          exact ⟨none, 0, [], ret_dd HC.out.symm, HR.out.symm, ObD.nil _ _ _ _ _, bs T1 hb2⟩
        · have HC := Lib.hid (mgeC_0 HZ.out HCLF.out ⟨s1, S2⟩ (by rw [HCA.out]; exact h40))
          have HR := Lib.hid (mgeR_0 HC.out)
          have HI8 := Lib.hid (show ((hs.length : Int) == 40) = false from beq_f (by omega))
          have HAP := Lib.hid (deckOk_append o1 o2 HCLF.out (by rw [HCA.out]; simp only [List.length_singleton]; omega))
          have hsum : hs.length + 1 ≤ 40 := by omega
          have HTS := Lib.hid (show tot hs ≤ 1000 ∧ xs.length ≤ 1000 by
            have e1 := deckOk_sum o1
            have e2 := deckOk_sum o2
            rw [← tot_of_cards (gs := hs) rfl] at e1
            simp at e2
            omega)
          clear s1 S2 h40 o1 o2
          go_wp2_with fail
          have lc := fun x : Later w1 => lat_cell x kc1
          refine wp_region_later (by kernel_rfl) (by kernel_rfl) ?_
          repeat (go_big_quiet_step ((first | (go_at_call 128; exact lat_call (deckColumns_any D c hs _ (rd1.up (Later.below _)) hl)) | (go_at_call 132; exact lat_call (columns_any A xs.length cc _ (by omega))))))
          refine wpQuiet_nil ?_
          intro u1 hv1
          replace rd1 := rd1.up hv1
          replace rx1 := rx1.up hv1
          replace kc1 := cell_later hv1 kc1
          replace q1 := cell_later hv1 q1
          replace q2 := cell_later hv1 q2
          replace T1 := bs T1 hv1
          clear hv1 lc
          go_wp2_with fail
          refine (isAscending_any D c hs i j true _ rd1 HO1.out hij hj1 hl HS1.out).mono ?_; rintro e w2 ⟨rfl, hb2⟩
          have i8 := HI8.out
          have kc2 := cell_later hb2 kc1
          have q3 := cell_later hb2 q1
          have q4 := cell_later hb2 q2
          have rd2 := rd1.up hb2
          have rx2 := rx1.up hb2
          have T2 := bs T1 hb2
          clear kc1 q1 q2 rd1 rx1 hb2 T1
          go_wp2_with fail
          have hzw0 : w.heap.size < w2.heap.size := World.block_lt_of_cell? _ _ kc2
          have hzw1 : w.heap.size + 1 < w2.heap.size := World.block_lt_of_cell? _ _ q3
          go_region_held3 (fun w' => w'.cell? ⟨w.heap.size, 0, none⟩ = some (.slice A xs.length cc) ∧ w'.cell? ⟨w.heap.size + 1, 0, none⟩ = some (.int .i64 (i : Int)) ∧ w'.cell? ⟨w.heap.size + 1, 1, none⟩ = some (.int .i64 (j : Int))) (first | exact ⟨kc2, q3, q4⟩ | exact ⟨cell_alloc kc2 _, cell_alloc q3 _, cell_alloc q4 _⟩ | go_keep)
            (first
              | (go_at_call 130; refine (newDeck_any D c hs _ ?_ hl).mono ?_; (first | exact rd2 | exact rd2.drew | exact rd2.drewN _); rintro e w5 ⟨D5, c5, g5, rfl, hcc5, ho5, hb5⟩; have B5W : Below w2.heap.size w2 w5 := (by first | exact bs (b0 w2) hb5 | exact bs (b0 w2).drew hb5 | exact bs (below_drewN (b0 w2) _) hb5); have HC5 := Lib.hid hcc5; have hlen5 : g5.length ≤ 40 := (by have := (cards_same hcc5).1; omega); have O5 : ObD w5 w2.heap.size w5.heap.size 37 2 D5 c5 g5 := ho5; replace kc2 := cell_later B5W kc2; replace q3 := cell_later B5W q3; replace q4 := cell_later B5W q4; have rx5 := rx2.up B5W; clear hcc5)
              | (go_at_call 133; refine (newCard_any A cc xs _ ?_ (by omega)).mono ?_; (first | exact rx5 | exact rx5.drew); rintro e w6 ⟨B6, d6, rfl, ho6, hb6⟩; have C6 : Ob w6 w2.heap.size w6.heap.size 2 1 (.slice B6 xs.length d6) xs.length (ints xs) := (Ob.of ho6).mono B5W.size (Nat.le_refl _); have B6W := bs B5W hb6; have O6 := O5.bs hb6; replace kc2 := cell_later hb6 kc2; replace q3 := cell_later hb6 q3; replace q4 := cell_later hb6 q4)
              | (go_at_call 133; refine (newCard_any A cc xs _ ?_ (by omega)).mono ?_; (first | exact rx2 | exact rx2.drew); rintro e w6 ⟨B6, d6, rfl, ho6, hb6⟩; have B6W : Below w2.heap.size w2 w6 := (by first | exact bs (b0 w2) hb6 | exact bs (b0 w2).drew hb6 | exact bs (below_drewN (b0 w2) _) hb6); have C6 : Ob w6 w2.heap.size w6.heap.size 2 1 (.slice B6 xs.length d6) xs.length (ints xs) := (Ob.of ho6); have rd6 := rd2.up B6W; replace kc2 := cell_later B6W kc2; replace q3 := cell_later B6W q3; replace q4 := cell_later B6W q4)
              | (go_at_call 130; refine (newDeck_any D c hs _ ?_ hl).mono ?_; (first | exact rd6 | exact rd6.a1 _); rintro e w5 ⟨D5, c5, g5, rfl, hcc5, ho5, hb5⟩; have B56 : Below w6.heap.size w6 w5 := (by first | exact hb5 | exact bs (ba (b0 w6) _) hb5); have B5W := bs B6W B56; have HC5 := Lib.hid hcc5; have hlen5 : g5.length ≤ 40 := (by have := (cards_same hcc5).1; omega); have O5 : ObD w5 w2.heap.size w5.heap.size 37 2 D5 c5 g5 := ho5.mono (by first | exact B6W.size | exact Nat.le_trans B6W.size (by simp)) (Nat.le_refl _); replace kc2 := cell_later B56 kc2; replace q3 := cell_later B56 q3; replace q4 := cell_later B56 q4; clear hcc5)
              | (refine step_aps rfl (.tmp 42) (.tmp 45) 24 rfl w2.heap.size 37 z0 _ 1 24 Try.underlying24 hz0 hz1 hz2 hz3 rfl (by omega) D5 g5.length c5 (heads g5) _ rfl (O6.alloc _).row.1 _ (some ⟨w6.heap.size, 0, none⟩) 1 1 [.slice B6 xs.length d6] rfl (rd_cell (cell_new rfl rfl)) (fun u hu => by rw [List.mem_singleton] at hu; subst hu; rfl) (by omega) (by omega) (by first | exact B6W.size | exact B5W.size | exact Nat.le_trans B6W.size (by simp) | exact Nat.le_trans B5W.size (by simp)) ?_; intro G7 cap w7 hown7 hb7 hg7; have RJ := rdd_snoc (O6.alloc _) (C6.alloc _) rfl hown7 hg7; replace kc2 := (hb7.cell (p := ⟨w.heap.size, 0, none⟩) hzw0).trans (by first | exact kc2 | exact cell_alloc kc2 _); replace q3 := (hb7.cell (p := ⟨w.heap.size + 1, 0, none⟩) hzw1).trans (by first | exact q3 | exact cell_alloc q3 _); replace q4 := (hb7.cell (p := ⟨w.heap.size + 1, 1, none⟩) hzw1).trans (by first | exact q4 | exact cell_alloc q4 _); have B7W : Below w2.heap.size w2 w7 := (by first | exact (ba B6W _).trans hb7 | exact (ba B5W _).trans hb7 | exact B5W.trans hb7))
              | (refine step_aps rfl (.tmp 42) (.tmp 45) 24 rfl w2.heap.size 37 z0 _ 1 24 Try.underlying24 hz0 hz1 hz2 hz3 rfl (by omega) D5 g5.length c5 (heads g5) _ rfl (O5.alloc _).row.1 _ (some ⟨w5.heap.size, 0, none⟩) 1 1 [.slice B6 xs.length d6] rfl (rd_cell (cell_new rfl rfl)) (fun u hu => by rw [List.mem_singleton] at hu; subst hu; rfl) (by omega) (by omega) (by first | exact B6W.size | exact B5W.size | exact Nat.le_trans B6W.size (by simp) | exact Nat.le_trans B5W.size (by simp)) ?_; intro G7 cap w7 hown7 hb7 hg7; have RJ := rdd_snoc (O5.alloc _) ((C6.bs B56).alloc _) rfl hown7 hg7; replace kc2 := (hb7.cell (p := ⟨w.heap.size, 0, none⟩) hzw0).trans (by first | exact kc2 | exact cell_alloc kc2 _); replace q3 := (hb7.cell (p := ⟨w.heap.size + 1, 0, none⟩) hzw1).trans (by first | exact q3 | exact cell_alloc q3 _); replace q4 := (hb7.cell (p := ⟨w.heap.size + 1, 1, none⟩) hzw1).trans (by first | exact q4 | exact cell_alloc q4 _); have B7W : Below w2.heap.size w2 w7 := (by first | exact (ba B6W _).trans hb7 | exact (ba B5W _).trans hb7 | exact B5W.trans hb7))
              | (refine step_aps rfl (.tmp 42) (.tmp 45) 24 rfl w2.heap.size 37 z0 _ 1 24 Try.underlying24 hz0 hz1 hz2 hz3 rfl (by omega) D5 g5.length c5 (heads g5) _ rfl (O5).row.1 _ (some ⟨w6.heap.size, 0, none⟩) 1 1 [.slice B6 xs.length d6] rfl (rd_cell (cell_later hb5 (cell_new rfl rfl))) (fun u hu => by rw [List.mem_singleton] at hu; subst hu; rfl) (by omega) (by omega) (by first | exact B6W.size | exact B5W.size | exact Nat.le_trans B6W.size (by simp) | exact Nat.le_trans B5W.size (by simp)) ?_; intro G7 cap w7 hown7 hb7 hg7; have RJ := rdd_snoc (O5) ((C6.alloc _).bs hb5) rfl hown7 hg7; replace kc2 := (hb7.cell (p := ⟨w.heap.size, 0, none⟩) hzw0).trans (by first | exact kc2 | exact cell_alloc kc2 _); replace q3 := (hb7.cell (p := ⟨w.heap.size + 1, 0, none⟩) hzw1).trans (by first | exact q3 | exact cell_alloc q3 _); replace q4 := (hb7.cell (p := ⟨w.heap.size + 1, 1, none⟩) hzw1).trans (by first | exact q4 | exact cell_alloc q4 _); have B7W : Below w2.heap.size w2 w7 := (by first | exact (ba B6W _).trans hb7 | exact (ba B5W _).trans hb7 | exact B5W.trans hb7))
              | (go_at_call 117; refine (sortedBy_n (g5.length + 1) _ _ (g5 ++ [⟨B6, d6, xs⟩]) i j _ (List.length_append ..) ?_ ?_ hij ?_ ?_).mono ?_; (first | exact RJ | exact RJ.drew); (rw [cards_append, HC5.out]; exact HAP.out.1); (rw [cards_append, HC5.out]; exact HAP.out.2 j hj1 HJ2.out); (rw [List.length_append, tot_append, tot_cards HC5.out, show tot [(⟨B6, d6, xs⟩ : Hd)] = xs.length from by simp [tot], List.length_singleton]; have := HTS.out; omega); rintro e w8 ⟨F7, cf7, g7, rfl, hc7, ho7, hb8⟩; have B8W := bs B7W hb8; replace kc2 := cell_later hb8 kc2; replace q3 := cell_later hb8 q3; replace q4 := cell_later hb8 q4))
          all_goals go_wp2
          all_goals go_ret2
          all_goals exact ⟨F7, cf7, g7, ret_dd HC.out.symm, by rw [HR.out, hc7, cards_append, HC5.out]; rfl, ho7.mono (Nat.le_trans T2.size B7W.size) (Nat.le_refl _), bs T2 B8W⟩
      · have HS1 := Lib.hid (show false = decide ((stepsL (cards hs) (i : Int) (j : Int) (cards hs).length).length = 0) by rw [decide_eq_false s1])
        have HC := Lib.hid (mgeC_6 HZ.out HCLF.out (fun h => s1 h.1))
        have HR := Lib.hid (mgeR_1 (L := cards hs) (M := [xs]) (a := (i : Int)) (b := (j : Int)) (by rw [HC.out]; decide))
        clear s1 o1 o2
        go_wp2_with fail
        have lc := fun x : Later w1 => lat_cell x kc1
        refine wp_region_later (by kernel_rfl) (by kernel_rfl) ?_
        repeat (go_big_quiet_step ((first | (go_at_call 128; exact lat_call (deckColumns_any D c hs _ (rd1.up (Later.below _)) hl)) | (go_at_call 132; exact lat_call (columns_any A xs.length cc _ (by omega))))))
        refine wpQuiet_nil ?_
        intro u1 hv1
        replace rd1 := rd1.up hv1
        replace rx1 := rx1.up hv1
        replace kc1 := cell_later hv1 kc1
        replace q1 := cell_later hv1 q1
        replace q2 := cell_later hv1 q2
        replace T1 := bs T1 hv1
        clear hv1 lc
        go_wp2_with fail
        refine (isAscending_any D c hs i j false _ rd1 HO1.out hij hj1 hl HS1.out).mono ?_; rintro e w2 ⟨rfl, hb2⟩
        go_wp2
        go_ret2
        exact ⟨none, 0, [], ret_dd HC.out.symm, HR.out.symm, ObD.nil _ _ _ _ _, bs T1 hb2⟩
    · have i1 : (0 : Int) < (hs.length : Int) := by omega
      have i3 : ((deckW (cards hs) : Int) != (xs.length : Int)) = true := bne_t (by omega)
      have HC := Lib.hid (mgeC_9 HZ.out hcl)
      have HR := Lib.hid (mgeR_1 (L := cards hs) (M := [xs]) (a := (i : Int)) (b := (j : Int)) (by rw [HC.out]; decide))
      clear hcl o1 o2
      go_wp2_with fail
      have lc := fun x : Later w1 => lat_cell x kc1
      refine wp_region_later (by kernel_rfl) (by kernel_rfl) ?_
      repeat (go_big_quiet_step ((first | (go_at_call 128; exact lat_call (deckColumns_any D c hs _ (rd1.up (Later.below _)) hl)) | (go_at_call 132; exact lat_call (columns_any A xs.length cc _ (by omega))))))
      refine wpQuiet_nil ?_
      intro u1 hv1
      replace rd1 := rd1.up hv1
      replace rx1 := rx1.up hv1
      replace kc1 := cell_later hv1 kc1
      replace q1 := cell_later hv1 q1
      replace q2 := cell_later hv1 q2
      replace T1 := bs T1 hv1
      clear hv1 lc
      go_wp2
      go_ret2
      exact ⟨none, 0, [], ret_dd HC.out.symm, HR.out.symm, ObD.nil _ _ _ _ _, T1⟩
  · have HC := Lib.hid (mgeC_e hz)
    have HR := Lib.hid (mgeR_1 (L := cards hs) (M := [xs]) (a := a) (b := b) (by rw [HC.out]; exact hz))
    have e1 := bne_t hz
    clear hz
    go_wp2
    go_ret2
    exact ⟨none, 0, [], ret_dd HC.out.symm, HR.out.symm, ObD.nil _ _ _ _ _, T1⟩
end Go.Proofs.Ytdppmlchabogaaa
