/- The harness over lists of decks as arguments. -/
import Derived.Test.YtkmclaijhkaimaaHarnDeck
import Derived.Test.YtkmclaijhkaimaaHarnDeck2
namespace Go.Proofs.Ytkmclaijhkaimaa
open Go.RowKit

/-- A row of decks' headers, filled as far as gs reaches. -/
structure PaDD (w : World) (lo hi : Nat) (eE eD eC : TypeId) (D : Option Addr) (n c : Nat) (gs : List Dk) : Prop where
  row : ∃ ys, Ob w lo hi eE 1 (.slice D n c) n ys ∧ ys.take gs.length = dheads gs
  deck : ∀ d ∈ gs, ObD w d.lo d.hi eD eC d.a d.c d.hs ∧ lo ≤ d.lo ∧ d.hi ≤ hi
  apart : gs.Pairwise fun x y => x.hi ≤ y.lo
  far : ∀ d ∈ gs, ∀ k, (Value.slice D n c).ownBlock = some k → k < d.lo ∨ d.hi ≤ k
section
variable {w w' : World} {lo hi lo' hi' : Nat} {eE eD eC : TypeId} {D : Option Addr} {n c : Nat} {gs : List Dk}
theorem PaDD.bs (h : PaDD w lo hi eE eD eC D n c gs) (hb : Below w.heap.size w w') : PaDD w' lo hi eE eD eC D n c gs := by
  obtain ⟨⟨ys, h1, h2⟩, h3, h4, h5⟩ := h
  exact ⟨⟨ys, h1.bs hb, h2⟩, fun x hx => ⟨(h3 x hx).1.bs hb, (h3 x hx).2⟩, h4, h5⟩
theorem PaDD.start {ys : List Value} (h : Ob w lo hi eE 1 (.slice D n c) n ys) : PaDD w lo hi eE eD eC D n c [] := ⟨⟨ys, h, by simp [dheads]⟩, by simp, List.Pairwise.nil, by simp⟩
theorem PaDD.full (h : PaDD w lo hi eE eD eC D n c gs) (hn : gs.length = n) : ObDD w lo hi eE eD eC D c gs := by
  obtain ⟨⟨ys, h1, h2⟩, h3, h4, h5⟩ := h
  subst hn
  have hl := h1.1.1
  rw [List.take_of_length_le (by omega)] at h2
  subst h2
  exact ⟨h1, h3, h4, h5⟩
theorem PaDD.cell {g : Nat} (h : PaDD w lo hi eE eD eC (some ⟨g, 0, none⟩) n c gs) {k : Nat} (hk : k < n) : (∃ v, w.cell? ⟨g, k, none⟩ = some v) ∧ w.frozen? ⟨g, k, none⟩ = false ∧ lo ≤ g ∧ g < hi := by
  obtain ⟨⟨ys, h1, h2⟩, h3, h4⟩ := h
  have hl := h1.1.1
  refine ⟨⟨ys[k]'(by omega), ?_⟩, ?_, (ob_form h1 rfl).2⟩
  · have := h1.1.cells (g := g) rfl k _ (List.getElem?_eq_getElem (by omega))
    rwa [Addr.add_lit, Nat.zero_add] at this
  · rcases h1.1.2 with ⟨hv, _⟩ | ⟨g', cap, cur, hv, hb, hg, _⟩
    · cases hv
    · injection hv with hv
      injection hv with hv
      injection hv with hv
      subst hv
      simp [World.frozen?, hg]
theorem PaDD.step {g : Nat} (h : PaDD w lo hi eE eD eC (some ⟨g, 0, none⟩) n c gs) (hlt : gs.length < n) {B : Option Addr} {d : Nat} {hs : List Hd} {l1 h1 : Nat} (hc : ObD w l1 h1 eD eC B d hs) (hl : hi ≤ l1) (hll : lo ≤ l1) (hh1 : h1 ≤ w.heap.size) (hhi : hi ≤ w.heap.size) :
    PaDD (w.setCell ⟨g, gs.length, none⟩ (.slice B hs.length d)) lo w.heap.size eE eD eC (some ⟨g, 0, none⟩) n c (gs ++ [⟨B, d, hs, l1, h1⟩]) := by
  obtain ⟨⟨ys, h2, h3⟩, h4, h5, h8⟩ := h
  have hst : (w.setCell ⟨g, gs.length, none⟩ (.slice B hs.length d)).ownsRow lo eE 1 (.slice (some ⟨g, 0, none⟩) n c) n (ys.set gs.length (.slice B hs.length d)) ∧ w.grownBy (w.setCell ⟨g, gs.length, none⟩ (.slice B hs.length d)) (some g) := by
    have hcap : n = n := rfl
    exact (h2.1).stored gs.length (.slice B hs.length d)
  have hyl := h2.1.1
  have hgb : lo ≤ g ∧ g < hi := (ob_form h2 rfl).2
  refine ⟨⟨_, ⟨hst.1, fun k hk => Nat.lt_of_lt_of_le (h2.2 k hk) hhi⟩, ?_⟩, ?_, ?_, ?_⟩
  · rw [List.length_append, List.length_singleton, take_set _ _ _ (by omega), h3, dheads_append]
    rfl
  · intro y hy
    rcases List.mem_append.1 hy with hy | hy
    · have h6 := h4 y hy
      exact ⟨h6.1.kept hst.2 (fun k hk => by injection hk with hk; subst hk; exact h8 y hy g rfl), h6.2.1, Nat.le_trans h6.2.2 hhi⟩
    · rw [List.mem_singleton] at hy
      subst hy
      exact ⟨hc.kept hst.2 (fun k hk => by injection hk with hk; subst hk; exact .inl (by omega)), hll, hh1⟩
  · refine List.pairwise_append.2 ⟨h5, List.pairwise_singleton _ _, ?_⟩
    intro x hx y hy
    rw [List.mem_singleton] at hy
    subst hy
    have := (h4 x hx).2.2
    simp only
    omega
  · intro y hy k hk
    rcases List.mem_append.1 hy with hy | hy
    · exact h8 y hy k hk
    · rw [List.mem_singleton] at hy
      subst hy
      have hk2 : k = g := by injection hk with hk; exact hk.symm
      subst hk2
      exact .inl (by simp only; omega)
end

set_option maxHeartbeats 1000000 in
theorem szCardSS_yes (D : Option Addr) (c : Nat) (ds : List Dk) (l : Int) (w : World) (ha : RdDD w w.heap.size D ds) (h0 : ((ds.length + dtot ds : Nat) : Int) ≤ l) (h1 : l ≤ 1048576) :
    Calls Try.prog 21 #[.slice D ds.length c, .int .i64 l] w fun e w' => e = .returned (.int .i64 (l - (ds.length + dtot ds : Nat))) ∧ Below w.heap.size w w' := by
  have h2 : ¬ (l - (ds.length : Int) < 0) := by omega
  go_enter Try.func21, Try.ntmps21
  go_wp2
  go_loopw [1, 5] (fun q i wr => ∃ k : Nat, k ≤ ds.length ∧ i = .int .i64 k ∧ q = .int .i64 (l - ds.length - (dtot (ds.take k) : Nat)) ∧ Below w.heap.size w wr) (fun _ i _ => ds.length - (intOf i).toNat)
  case atStart => exact ⟨0, Nat.zero_le _, rfl, by simp [dtot], b0 _⟩
  case round =>
    obtain ⟨k, hk, rfl, rfl, hbw⟩ := hrel
    by_cases hlt : k < ds.length
    · obtain ⟨b, off, rfl, hbb, hcell⟩ := ha.at_ hlt
      have h3 := (hbw.cell (p := ⟨b, off + k, none⟩) hbb).trans (hcell k hlt)
      have r1 := ((ha.below hbw).deck_at hlt).more hbw.size
      have ht := dtot_take_succ ds k hlt
      have hl := dtot_take_le ds (k + 1)
      have h4 : ¬ (l - (ds.length : Int) - (dtot (ds.take k) : Int) - ((ds[k].hs.length + tot ds[k].hs : Nat) : Int) < 0) := by omega
      have hq := Lib.hid ht
      clear hcell ha
      go_wp2_with fail
      refine (szCardS_yes _ _ ds[k].hs _ _ r1 (by omega) (by omega)).mono ?_; rintro e w1 ⟨rfl, hb1⟩
      clear ht hl
      go_wp2
      go_roundw
      case rel => exact ⟨k + 1, by omega, by go_num, by rw [hq.out]; go_num, bs hbw hb1⟩
      case measure => simp [intOf]; omega
    · obtain rfl : k = ds.length := by omega
      have hq := Lib.hid (show ds.take ds.length = ds from List.take_length)
      go_wp2
      go_ret
      exact ⟨ret_int (by rw [hq.out]; omega), hbw⟩

set_option maxRecDepth 100000 in
set_option maxHeartbeats 1000000 in
theorem szCardSS_no (D : Option Addr) (c : Nat) (ds : List Dk) (l : Int) (w : World) (ha : RdDD w w.heap.size D ds) (h0 : ¬ ((ds.length + dtot ds : Nat) : Int) ≤ l) (h1 : 0 ≤ l) (hm : ds.length ≤ maxLen ∧ ∀ d ∈ ds, d.hs.length ≤ maxLen ∧ ∀ h ∈ d.hs, h.xs.length ≤ maxLen) (h3 : l ≤ 1048576) :
    Calls Try.prog 21 #[.slice D ds.length c, .int .i64 l] w fun e w' => e = .returned (.int .i64 (-1)) ∧ Below w.heap.size w w' := by
  obtain ⟨hm1, hm2⟩ := hm
  unfold maxLen at hm1
  by_cases h2 : l < (ds.length : Int)
  · clear ha hm2
    go_enter Try.func21, Try.ntmps21
    go_wp2
    go_ret
    exact ⟨rfl, b0 _⟩
  have h4 : ¬ (l - (ds.length : Int) < 0) := by omega
  go_enter Try.func21, Try.ntmps21
  go_wp2
  go_loopw [1, 5] (fun q i wr => ∃ k : Nat, k ≤ ds.length ∧ i = .int .i64 k ∧ q = .int .i64 (l - ds.length - (dtot (ds.take k) : Nat)) ∧ ((ds.length + dtot (ds.take k) : Nat) : Int) ≤ l ∧ Below w.heap.size w wr) (fun _ i _ => ds.length - (intOf i).toNat)
  case atStart => exact ⟨0, Nat.zero_le _, rfl, by simp [dtot], by simp [dtot]; omega, b0 _⟩
  case round =>
    obtain ⟨k, hk, rfl, rfl, hle, hbw⟩ := hrel
    by_cases hlt : k < ds.length
    · obtain ⟨b, off, rfl, hbb, hcell⟩ := ha.at_ hlt
      have h5 := (hbw.cell (p := ⟨b, off + k, none⟩) hbb).trans (hcell k hlt)
      have r1 := ((ha.below hbw).deck_at hlt).more hbw.size
      have ht := dtot_take_succ ds k hlt
      have hx := hm2 _ (List.getElem_mem hlt)
      have hq := Lib.hid ht
      clear hcell ha hm2
      by_cases h6 : ((ds.length + dtot (ds.take (k + 1)) : Nat) : Int) ≤ l
      · have h7 : ¬ (l - (ds.length : Int) - (dtot (ds.take k) : Int) - ((ds[k].hs.length + tot ds[k].hs : Nat) : Int) < 0) := by omega
        have h8 := Lib.hid h6
        go_wp2_with fail
        refine (szCardS_yes _ _ ds[k].hs _ _ r1 (by omega) (by omega)).mono ?_; rintro e w1 ⟨rfl, hb1⟩
        clear ht h6
        go_wp2
        go_roundw
        case rel => exact ⟨k + 1, by omega, by go_num, by rw [hq.out]; go_num, h8.out, bs hbw hb1⟩
        case measure => simp [intOf]; omega
      · go_wp2_with fail
        refine (szCardS_no _ _ ds[k].hs _ _ r1 (by omega) (by omega) hx (by omega)).mono ?_; rintro e w1 ⟨rfl, hb1⟩
        clear ht h6
        go_wp2
        go_ret
        exact ⟨rfl, bs hbw hb1⟩
    · obtain rfl : k = ds.length := by omega
      rw [List.take_length] at hle
      exfalso
      omega

set_option maxRecDepth 20000 in
set_option maxHeartbeats 2000000 in
theorem toCardSS_any (D : Option Addr) (c : Nat) (ds : List Dk) (w : World) (ha : RdDD w w.heap.size D ds) (hl : ds.length + dtot ds ≤ 1048576) :
    Calls Try.prog 23 #[.slice D ds.length c] w fun e w' => ∃ g gs, e = .returned (.slice (some ⟨g, 0, none⟩) gs.length gs.length) ∧
      decks gs = decks ds ∧ ObDD w' w.heap.size w'.heap.size 29 52 2 (some ⟨g, 0, none⟩) gs.length gs ∧ Below w.heap.size w w' := by
  obtain ⟨i0, hi, hz0, hz1, hz2⟩ := info_parts info_deck
  go_enter Try.func23, Try.ntmps23
  go_wp2_with (at_make; refine wpList_make_full _ rfl _ _ 26 rfl w.heap.size 29 i0 (.slice none 0 0) 1 Try.underlying26 hi hz0 hz1 _ _ _ _ ds.length rfl rfl rfl rfl (by rw [hz2]; omega) (by unfold maxLen; omega) (Nat.le_refl _) ?_; intro w1 hown1 hgrow1)
  go_loopw [4] (fun i wr => ∃ (k : Nat) (gs : List Dk), k ≤ ds.length ∧ i = .int .i64 k ∧ gs.length = k ∧ decks gs = decks (ds.take k) ∧ PaDD wr w.heap.size wr.heap.size 29 52 2 (some ⟨w.heap.size, 0, none⟩) ds.length ds.length gs ∧ Below w.heap.size w wr)
    (fun i _ => ds.length - (intOf i).toNat)
  case atStart => exact ⟨0, [], Nat.zero_le _, rfl, rfl, by simp [decks], PaDD.start (Ob.of hown1), (Below.refl _ _).grown hgrow1 (Nat.le_refl _) (by simp)⟩
  case round =>
    obtain ⟨k, gs, hk, rfl, hgl, hgc, hpa, hbw⟩ := hrel
    have HG := Lib.hid hgl
    have HC := Lib.hid hgc
    clear hgl hgc hown1 hgrow1
    by_cases hlt : k < ds.length
    · obtain ⟨b, off, hD, hbb, hcell⟩ := ha.at_ hlt
      subst hD
      have k1 := (hbw.cell (p := ⟨b, off + k, none⟩) hbb).trans (hcell k hlt)
      have r1 := ((ha.below hbw).deck_at hlt).more hbw.size
      have hlc := dtot_at ds k hlt
      clear hcell
      go_wp2_with fail
      refine (toCardS_any _ _ ds[k].hs _ r1 (by omega)).mono ?_; rintro e w2 ⟨g2, g2s, rfl, hc2, ho2, hb2⟩
      have HC2 := Lib.hid hc2
      have hpa2 := hpa.bs hb2
      obtain ⟨⟨v, hcy⟩, hfy, _, hgg⟩ := hpa2.cell hlt
      have hst := hpa2.step (by rw [HG.out]; exact hlt) ho2 (Nat.le_refl _) hbw.size (Nat.le_refl _) hb2.size
      rw [HG.out] at hst
      have HST := Lib.hid hst
      have HB := Lib.hid (bset (bs hbw hb2) w.heap.size k (.slice (some ⟨g2, 0, none⟩) g2s.length g2s.length) (Nat.le_refl _))
      clear hst hpa2 hpa ho2 hc2
      go_wp2
      go_roundw
      case rel => exact ⟨k + 1, gs ++ [⟨some ⟨g2, 0, none⟩, g2s.length, g2s, _, _⟩], by omega, by go_num, by rw [List.length_append, HG.out]; rfl, by rw [decks_append, HC.out, decks_snoc ds k hlt, ← HC2.out]; rfl, by simpa using HST.out, HB.out⟩
      case measure => simp [intOf]; omega
    · obtain rfl : k = ds.length := by omega
      rw [List.take_length] at HC
      have hob := hpa.full HG.out
      have HG' := HG.out
      go_wp2
      go_ret
      rw [← HG']
      rw [← HG'] at hob
      exact ⟨_, gs, rfl, HC.out, hob, hbw⟩
end Go.Proofs.Ytkmclaijhkaimaa
