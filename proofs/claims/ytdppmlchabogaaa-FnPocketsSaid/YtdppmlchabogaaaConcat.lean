/- slices.Concat over decks; GatherCards in the program. -/
import Derived.Test.YtdppmlchabogaaaGather
import Derived.Test.YtdppmlchabogaaaPasses
import Derived.Test.YtdppmlchabogaaaKeysAll
import Derived.Lib.AppendZeros
namespace Go.Proofs.Ytdppmlchabogaaa
open Go.RowKit

theorem info_cardN : (Try.prog.info? 37).map (fun i => (i.zero, i.size, i.bytes)) = some (some (.agg #[.slice none 0 0]), 1, 24) := by kernel_rfl
/-- All cards of decks, one deck behind the other. -/
def flat (ds : List Dk) : List Hd := ds.flatMap Dk.hs
theorem flat_nil : flat [] = [] := rfl
theorem flat_snoc (ds : List Dk) (k : Nat) (h : k < ds.length) : flat (ds.take (k + 1)) = flat (ds.take k) ++ ds[k].hs := by
  unfold flat
  rw [List.take_succ_eq_append_getElem h, List.flatMap_append, List.flatMap_cons, List.flatMap_nil, List.append_nil]
theorem flat_cards (ds : List Dk) : cards (flat ds) = (decks ds).flatten := by
  unfold flat cards decks
  rw [List.map_flatMap, List.flatMap_def]
  rfl
theorem flat_le (ds : List Dk) : (flat ds).length + tot (flat ds) ≤ dtot ds := by
  induction ds with
  | nil => simp [flat, tot, dtot]
  | cons d ds ih =>
    have e : flat (d :: ds) = d.hs ++ flat ds := rfl
    rw [e, List.length_append, tot_append]
    simp only [dtot, List.map_cons, List.sum_cons] at ih ⊢
    omega
theorem flat_take_le (ds : List Dk) (k : Nat) : (flat (ds.take k)).length ≤ dtot ds := by
  have h1 := flat_le (ds.take k)
  have h2 := dtot_take_le ds k
  omega
theorem flat_mem {ds : List Dk} {h : Hd} (hm : h ∈ flat ds) : ∃ d ∈ ds, h ∈ d.hs := List.mem_flatMap.1 hm
/-- The deck of all cards, its headers in a row of the call's own. -/
theorem rdd_flat {w : World} {B : Nat} {E : Option Addr} {ds : List Dk} (h : RdDD w B E ds) {G : Option Addr} {B' : Nat} (hr : Rd w B' 1 G (flat ds).length (heads (flat ds))) (hB : B ≤ B') : RdD w B' G (flat ds) :=
  ⟨hr, fun x hx => by obtain ⟨d, hd, hxd⟩ := flat_mem hx; exact ((h.deck d hd).card x hxd).more hB, fun x hx => by obtain ⟨d, hd, hxd⟩ := flat_mem hx; exact (h.deck d hd).cap x hxd⟩

theorem own_zero (w : World) (cur : Array Value) (cap : Nat) {base H : Nat} {e : TypeId} (hH : H = w.heap.size) (hb : base ≤ w.heap.size) (hc : cap ≤ maxLen) (hs : cur.size = cap) :
    (w.alloc (.cells cur e)).ownsRow base e 1 (.slice (some ⟨H, 0, none⟩) 0 cap) 0 [] := by
  subst hH
  exact ⟨by simp, .inr ⟨w.heap.size, cap, cur, rfl, hb, heap_alloc_new w _, Nat.zero_le _, hc, by rw [hs, Nat.mul_one], by simp⟩⟩

set_option maxRecDepth 20000 in
set_option maxHeartbeats 4000000 in
theorem Grow_any (n : Nat) (w : World) (hn : n ≤ 1048576) :
    Calls Try.prog 230 #[.slice none 0 0, .int .i64 n] w fun e w' => ∃ G c, e = .returned (.slice G 0 c) ∧ w'.ownsRow w.heap.size 37 1 (.slice G 0 c) 0 [] ∧ Below w.heap.size w w' := by
  obtain ⟨j0, hj, hj0, hj1, hj2⟩ := info_parts info_cardN
  by_cases h0 : n = 0
  · subst h0
    go_enter Try.func230, Try.ntmps230
    go_wp2
    go_ret
    exact ⟨none, 0, rfl, World.ownsRow_nil _ _ _ _, b0 _⟩
  · have hpos : 0 < n := by omega
    have i1 : (0 : Int) < (n : Int) := by omega
    have i2 : ¬ (n : Int) < 0 := by omega
    obtain ⟨cap, hcap⟩ : ∃ cap, cap = grownCap w n 0 37 := ⟨_, rfl⟩
    have hr := Lib.run_append_nil_zeros (P := Try.prog) w 24 3 24 37 j0 _ .i64 .i64 Try.underlying24 Try.underlying3 hj hj0 n hpos (by rw [hj1]; omega) (by omega) (by rw [hj2]; omega)
    rw [← hcap] at hr
    have HR := Lib.hid hr
    have hge := grownCap_ge w n 0 37
    have hle := grownCap_le_maxLen w n 0 37 (by unfold maxLen; omega)
    rw [← hcap] at hge hle
    obtain ⟨cur, hcur⟩ : ∃ cur, cur = Builtin.zeroCells (Value.agg #[.slice none 0 0]).cells n ++ Builtin.zeroCells (Value.agg #[.slice none 0 0]).cells (cap - n) := ⟨_, rfl⟩
    have HCS := Lib.hid (show cur.size = cap by rw [hcur, Array.size_append, size_zeroCells, size_zeroCells]; simp [Value.cells]; omega)
    rw [← hcur] at HR
    clear hr hcap hcur
    go_enter Try.func230, Try.ntmps230
    go_wp2_with (at_builtin; go_loud (refine Lib.wpList_append_run _ rfl (.tmp 20) (.tmp 21) 24 3 rfl _ _ rfl rfl _ _ HR.out ?_))
    go_ret
    refine ⟨_, cap, rfl, own_zero w.drew cur cap rfl (Nat.le_refl _) hle HCS.out, ?_⟩
    exact (below_drewN (b0 w) 1).alloc (Nat.le_refl _) _

/-- Behind k decks: how many cards. -/
def CcN (ds : List Dk) (w wr : World) (s q : Value) : Prop := ∃ k : Nat, k ≤ ds.length ∧ q = .int .i64 k ∧ s = .int .i64 (flat (ds.take k)).length ∧ w = wr
/-- Behind k decks: their cards' headers. -/
def CcR (ds : List Dk) (w wr : World) (o q : Value) : Prop := ∃ (k : Nat) (G : Option Addr) (c : Nat), k ≤ ds.length ∧ q = .int .i64 k ∧ o = .slice G (flat (ds.take k)).length c ∧ wr.ownsRow w.heap.size 37 1 (.slice G (flat (ds.take k)).length c) (flat (ds.take k)).length (heads (flat (ds.take k))) ∧ Below w.heap.size w wr

set_option maxRecDepth 20000 in
set_option maxHeartbeats 4000000 in
theorem Concat_any (E : Option Addr) (ce : Nat) (ds : List Dk) (w : World) (ha : RdDD w w.heap.size E ds) (hl : ds.length + dtot ds ≤ 1048576) :
    Calls Try.prog 141 #[.slice E ds.length ce] w fun e w' => ∃ G c, e = .returned (.slice G (flat ds).length c) ∧ RdD w' w'.heap.size G (flat ds) ∧ Below w.heap.size w w' := by
  obtain ⟨j0, hj, hj0, hj1, hj2⟩ := info_parts info_cardN
  have HFL := Lib.hid (flat_take_le ds)
  have HALL := Lib.hid (show flat (ds.take ds.length) = flat ds by rw [List.take_length])
  go_enter Try.func141, Try.ntmps141
  go_wp2
  go_loopw [3, 11] (fun s q wr => CcN ds w wr s q) (fun _ q _ => ds.length - (intOf q).toNat)
  case atStart => exact ⟨0, Nat.zero_le _, rfl, rfl, rfl⟩
  case round =>
    obtain ⟨k, hk, rfl, rfl, rfl⟩ := hrel
    by_cases hlt : k < ds.length
    · obtain ⟨b1, o1, hE, _, hc1⟩ := ha.at_ hlt
      have d1 := hc1 k hlt
      have i1 : (k : Int) < (ds.length : Int) := by omega
      have HS := Lib.hid (show (flat (ds.take k)).length + ds[k].hs.length = (flat (ds.take (k + 1))).length by rw [flat_snoc _ _ hlt, List.length_append])
      have hb1 := HFL.out k
      have hb2 := HFL.out (k + 1)
      obtain ⟨n, hn⟩ : ∃ n, n = (flat (ds.take k)).length := ⟨_, rfl⟩
      obtain ⟨m, hm⟩ : ∃ m, m = (flat (ds.take (k + 1))).length := ⟨_, rfl⟩
      rw [← hn, ← hm] at HS
      rw [← hn] at hb1 ⊢
      rw [← hm] at hb2
      have i2 : (n : Int) + (ds[k].hs.length : Int) = (m : Int) := by have := HS.out; omega
      have i3 : ¬ (m : Int) < 0 := by omega
      have HM := Lib.hid hm
      subst hE
      clear hc1 hn hm
      go_wp2
      go_roundw
      case rel =>
        have P : CcN ds w w (.int .i64 (m : Int)) (.int .i64 ((k : Int) + 1)) := ⟨k + 1, by omega, by go_num, by rw [HM.out], rfl⟩
        first | exact P | exact ⟨_, P, rfl⟩ | exact ⟨_, _, P, rfl, rfl⟩
      case measure => (simp [intOf]; try omega)
    · obtain rfl : k = ds.length := by omega
      have hb1 := HFL.out ds.length
      obtain ⟨N, hN⟩ : ∃ N, N = (flat (ds.take ds.length)).length := ⟨_, rfl⟩
      rw [← hN] at hb1 ⊢
      have HT := Lib.hid (show (flat ds).length = N by rw [hN, HALL.out])
      clear hN
      go_wp2_with fail
      refine (Grow_any N _ (show N ≤ 1048576 by omega)).mono ?_; rintro e w1 ⟨G0, c0, rfl, ho1, hb⟩
      have ra := ha
      go_wp2
      go_loopw [6, 27] (fun o q wr => CcR ds w wr o q) (fun _ q _ => ds.length - (intOf q).toNat)
      case atStart => exact ⟨0, G0, c0, Nat.zero_le _, rfl, rfl, ho1, hb⟩
      case round =>
        obtain ⟨wo, rfl⟩ : ∃ wo : World, wo = wr := ⟨_, rfl⟩
        obtain ⟨k, G, c, hk, rfl, rfl, hown, hbw⟩ := hrel
        have hb3 := HFL.out k
        by_cases hlt : k < ds.length
        · have rw1 := ra.up hbw
          have rj := rw1.deck_at hlt
          obtain ⟨b1, o1, hE, _, hc1⟩ := rw1.at_ hlt
          have d1 := hc1 k hlt
          have i1 : (k : Int) < (ds.length : Int) := by omega
          have HS := Lib.hid (flat_snoc ds k hlt)
          have hlk : ds[k].hs.length ≤ 1048576 := by have := dtot_at ds k hlt; omega
          have hbase := hbw.size
          obtain ⟨fl, hfl⟩ : ∃ fl, fl = flat (ds.take k) := ⟨_, rfl⟩
          rw [← hfl] at hown hb3 HS ⊢
          have HF2 := Lib.hid (show flat (ds.take (k + 1)) = fl ++ ds[k].hs from HS.out)
          subst hE
          clear hc1 hfl rw1
          go_wp2_with (at_builtin; go_loud (refine wpList_aps rfl (.tmp 31) (.tmp 32) 24 rfl w.heap.size 37 j0 _ 1 24 Try.underlying24 hj hj0 hj1 hj2 rfl (by omega) _ fl.length _ (heads fl) wo rfl hown _ _ ds[k].hs.length _ (heads ds[k].hs) rfl rj.row (heads_one ds[k].hs) (by omega) (by omega) hbase ?_; intro G6 cap w6 hown6 hb6 hg6))
          have HO := Lib.hid hown6
          have HB := Lib.hid (hbw.trans hb6)
          clear hown6 hown hb6 hg6 hbw rj
          go_wp2
          go_roundw
          case rel =>
            have P : CcR ds w w6 (.slice G6 (fl.length + ds[k].hs.length) cap) (.int .i64 ((k : Int) + 1)) := ⟨k + 1, G6, cap, by omega, by go_num, by rw [HF2.out, List.length_append], by rw [HF2.out, List.length_append, heads_append]; exact HO.out, HB.out⟩
            first | exact P | exact ⟨_, P, rfl⟩ | exact ⟨_, _, P, rfl, rfl⟩
          case measure => (simp [intOf]; try omega)
        · obtain rfl : k = ds.length := by omega
          rw [HALL.out] at hown ⊢
          go_wp2
          go_ret
          exact ⟨G, c, rfl, rdd_flat (ra.up hbw) (Rd.own hown) (Nat.le_refl _), hbw⟩
end Go.Proofs.Ytdppmlchabogaaa
