/- slices.DeleteFunc over []Card on a deck of the call's own, at a closure whose contract is given. -/
import Derived.Test.YtdppmlchabogaaaFuncsCard
namespace Go.Proofs.Ytdppmlchabogaaa
open Go.RowKit

def predH (pred : List Int → Bool) (h : Hd) : Bool := pred h.xs
theorem keep_cards (pred : List Int → Bool) (hs : List Hd) : cards (keep (predH pred) hs) = keep pred (cards hs) := by
  unfold keep cards predH
  induction hs with
  | nil => rfl
  | cons h hs ih =>
    simp only [List.map_cons, List.filter_cons]
    cases pred h.xs <;> simp [ih]
theorem heads_takeD (hs : List Hd) (k : Nat) : (heads hs).take k = heads (hs.take k) := by simp [heads]
theorem any_cards (pred : List Int → Bool) (hs : List Hd) : (cards hs).any pred = hs.any (predH pred) := by
  unfold cards predH
  rw [List.any_map]
  rfl
theorem idxP_cards (pred : List Int → Bool) (hs : List Hd) : idxP pred (cards hs) = idxP (predH pred) hs := by
  unfold idxP
  rw [any_cards]
  split
  · congr 1
    unfold cards
    rw [List.findIdx_map]
    rfl
  · rfl
/-- The cards' rows stay where the row of headers turns. -/
def CardsOb (w : World) (lo hi : Nat) (hs : List Hd) : Prop := ∀ h ∈ hs, Ob w lo hi 2 1 (.slice h.a h.xs.length h.c) h.xs.length (ints h.xs)
theorem CardsOb.bs {w w' : World} {lo hi : Nat} {hs : List Hd} (h : CardsOb w lo hi hs) (hb : Below w.heap.size w w') : CardsOb w' lo hi hs := fun x hx => (h x hx).bs hb
theorem CardsOb.kept {w w' : World} {lo hi lo' : Nat} {hs : List Hd} {D : Option Addr} {m c n : Nat} {ys : List Value} (h : CardsOb w lo hi hs) (hr : w.ownsRow lo' 37 1 (.slice D m c) n ys) (hg : w.grownBy w' (Value.slice D m c).ownBlock) : CardsOb w' lo hi hs :=
  fun x hx => (h x hx).kept hg (own_ne (h x hx).1 hr (by decide))
theorem set_grown {w : World} {base g n cap : Nat} {e : TypeId} {size : Nat} {xs : List Value} (h : w.ownsRow base e size (.slice (some ⟨g, 0, none⟩) n cap) n xs) (j : Nat) (u : Value) : w.grownBy (w.setCell ⟨g, j, none⟩ u) (some g) := (h.stored j u).2

set_option maxRecDepth 100000 in
set_option maxHeartbeats 4000000 in
theorem DeleteFuncCard_any (D : Option Addr) (c lo hi : Nat) (hs : List Hd) (F : FuncId) (cap : Array Value) (pred : List Int → Bool) (w : World) (ho : ObD w lo hi 37 2 D c hs) (hB : lo ≤ w.heap.size) (hl : hs.length ≤ 1048576)
    (eg : ∀ args w, (callFunc F args).run Try.prog w = .ok (.enter F args) w)
    (hf : ∀ h ∈ hs, ∀ w', Below lo w w' → Rd w' w'.heap.size 1 h.a h.xs.length (ints h.xs) → Calls Try.prog F (#[.agg #[.slice h.a h.xs.length h.c]] ++ cap) w' fun e w'' => e = .returned (.bool (pred h.xs)) ∧ Below w'.heap.size w' w'') :
    Calls Try.prog 147 #[.slice D hs.length c, .func (.func F) #[] cap] w fun e w' => ∃ gs, e = .returned (.slice D gs.length c) ∧ cards gs = keep pred (cards hs) ∧
      ObD w' lo hi 37 2 D c gs ∧ Below lo w w' := by
  have hcon := Lib.hid (IndexFuncCard_any D c hs F cap pred w ho.rd hl eg (fun h hh w' hb => hf h hh w' (hb.mono hB) ((ho.rd.up hb).card h hh)))
  have HF := Lib.hid hf
  have HKC := Lib.hid (keep_cards pred hs)
  have HIC := Lib.hid (idxP_cards pred hs)
  have hcs0 : CardsOb w lo hi hs := ho.card
  have HAP := Lib.hid ho.apart
  have hrow := ho.row
  clear hf
  rcases Bool.eq_false_or_eq_true (hs.any (predH pred)) with hany | hany
  · obtain ⟨k, hk, hno, hpk⟩ := any_first hany
    have hidx := Lib.hid (idxP_some hk hno hpk)
    have hcap := own_cap hrow.1
    obtain ⟨g, rfl, hg, hglt⟩ := own_at hrow.1 hk
    have hghi := hrow.2 g rfl
    have hkeep := Lib.hid (show keep (predH pred) (hs.take (k + 1)) = hs.take k by rw [keep_yes hk hpk, keep_none hno])
    have HHI := Lib.hid hrow.2
    have hown0 := hrow.1
    clear hany hno hpk hrow ho
    go_enter Try.func147, Try.ntmps147
    go_wp2_with fail
    refine hcon.out.mono ?_; rintro e w1 ⟨rfl, hb1⟩
    rw [HIC.out, hidx.out]
    replace hown0 := own_bs hown0 hb1
    have hcs1 := hcs0.bs hb1
    have z1 := hb1.size
    have hne : (((k : Nat) : Int) == -1) = false := by simp
    clear hcs0
    go_wp2
    go_loopw [5, 6] (fun si sj wr => ∃ (j i : Nat) (zs : List Value), j ≤ hs.length ∧ k + 1 ≤ j ∧ i < j ∧ sj = .int .i64 j ∧ si = .int .i64 i ∧ i = (keep (predH pred) (hs.take j)).length ∧ wr.ownsRow lo 37 1 (.slice (some ⟨g, 0, none⟩) hs.length c) hs.length zs ∧
        zs.take i = heads (keep (predH pred) (hs.take j)) ∧ zs.drop j = (heads hs).drop j ∧ CardsOb wr lo hi hs ∧ Below lo w wr ∧ w.heap.size ≤ wr.heap.size)
      (fun _ sj _ => hs.length - (intOf sj).toNat)
    case atStart => exact ⟨k + 1, k, heads hs, by omega, by omega, by omega, by go_num, rfl, by rw [hkeep.out, List.length_take]; omega, hown0, by rw [hkeep.out]; exact heads_takeD hs k, rfl, hcs1, hb1.mono hB, z1⟩
    case round =>
      obtain ⟨wo, rfl⟩ : ∃ wo : World, wo = wr := ⟨_, rfl⟩
      obtain ⟨j, i, zs, hj, hkj, hij, rfl, rfl, hi', hown, htk, hdr, hcs, hbw, hzw⟩ := hrel
      have HI := Lib.hid hi'
      have HTK := Lib.hid htk
      have HDR := Lib.hid hdr
      clear hi' htk hdr
      have hzl := hown.1
      rw [Nat.mul_one] at hzl
      have HZL := Lib.hid hzl
      clear hzl
      by_cases hlt : j < hs.length
      · have hjz : j < zs.length := by rw [HZL.out]; exact hlt
        have h1 := own_cell hown j hjz
        have e1 : zs[j] = .slice hs[j].a hs[j].xs.length hs[j].c := by
          have := get_of_drop HDR.out (k := j) (by omega)
          rw [heads_get _ _ hlt, List.getElem?_eq_getElem hjz] at this
          exact Option.some.inj this
        rw [e1] at h1
        have HE1 := Lib.hid e1
        clear e1
        have hrd : Rd (wo.alloc (.cells #[.slice hs[j].a hs[j].xs.length hs[j].c] 37)) (wo.alloc (.cells #[.slice hs[j].a hs[j].xs.length hs[j].c] 37)).heap.size 1 hs[j].a hs[j].xs.length (ints hs[j].xs) := ((hcs hs[j] (List.getElem_mem hlt)).rd).a1 _
        go_wp2_with fail
        refine (HF.out hs[j] (List.getElem_mem hlt) _ (hbw.alloc (by omega) _) hrd).mono ?_; rintro e w2 ⟨rfl, hb2⟩
        have kv1 : w2.cell? ⟨wo.heap.size, 0, none⟩ = some (.slice hs[j].a hs[j].xs.length hs[j].c) := cell_later hb2 (cell_new rfl rfl)
        have z2 := hb2.size
        simp only [World.size_alloc] at z2
        have hown2 := own_bs (own_bs hown (ba (b0 wo) _)) hb2
        have hcs2 := (hcs.bs (ba (b0 wo) _)).bs hb2
        have hbw2 : Below lo w w2 := (hbw.alloc (by omega) (.cells #[.slice hs[j].a hs[j].xs.length hs[j].c] 37)).trans (hb2.mono (by simp; omega))
        clear hrd hcs
        rcases Bool.eq_false_or_eq_true (pred hs[j].xs) with hp | hp
        · have HK := Lib.hid (keep_yes (p := predH pred) hlt hp)
          go_wp2
          go_roundw
          case rel => exact ⟨j + 1, i, zs, by omega, by omega, by omega, by go_num, rfl, by rw [HK.out]; exact HI.out, hown2, by rw [HK.out]; exact HTK.out, drop_more HDR.out (by omega), hcs2, hbw2, by omega⟩
          case measure => simp [intOf]; omega
        · have HK := Lib.hid (keep_no (p := predH pred) hlt hp)
          have hiz : i < zs.length := by omega
          have hcy := own_cell hown2 i hiz
          have hfy := hown2.frozenAt i
          have hs2 := ownsRow_set hown2 i (.slice hs[j].a hs[j].xs.length hs[j].c)
          have hcs3 := Lib.hid (hcs2.kept hown2 (set_grown hown2 i (.slice hs[j].a hs[j].xs.length hs[j].c)))
          have htn := Lib.hid (show (zs.set i (.slice hs[j].a hs[j].xs.length hs[j].c)).take (i + 1) = zs.take i ++ [.slice hs[j].a hs[j].xs.length hs[j].c] from take_set _ _ _ hiz)
          have hdn := Lib.hid (show (zs.set i (.slice hs[j].a hs[j].xs.length hs[j].c)).drop (j + 1) = (heads hs).drop (j + 1) by
            rw [drop_set _ (by omega)]
            exact drop_more HDR.out (by omega))
          clear hown
          go_wp2
          go_roundw
          case rel => exact ⟨j + 1, i + 1, _, by omega, by omega, by omega, by go_num, by go_num, by rw [HK.out, List.length_append, ← HI.out]; rfl, hs2, by rw [htn.out, HK.out, heads_append, HTK.out]; rfl, hdn.out, hcs3.out, bset hbw2 _ _ _ hg, by simp; omega⟩
          case measure => simp [intOf]; omega
      · obtain rfl : j = hs.length := by omega
        have hci : ¬ c = i := by omega
        obtain ⟨w3, hrun, ho3, hg3⟩ := run_clear_own (P := Try.prog) (t := 24) (ty := 0) Try.underlying24 Try.zeroValue37 (size := 1) rfl (by intro u hu; simp [Value.cells] at hu; subst hu; rfl) hown i (hs.length - i) (c - i) (by omega) (by omega)
        rw [Nat.mul_one] at hrun
        have hcs3 := Lib.hid (hcs.kept hown hg3)
        have HO3 := Lib.hid ho3
        have HB3 := Lib.hid (hbw.grown hg3 (by omega) (by intro q hq; injection hq with hq; omega))
        have hi2 : i ≤ hs.length := by omega
        have HSH := Lib.hid (own_short ho3 (j := i) hi2)
        have HIL := Lib.hid (show i = (keep (predH pred) hs).length by have := HI.out; rwa [List.take_length] at this)
        have HTL := Lib.hid (show zs.take i = heads (keep (predH pred) hs) by have := HTK.out; rwa [List.take_length] at this)
        clear ho3 hg3 hcs
        go_wp2
        go_ret
        refine ⟨keep (predH pred) hs, by rw [← HIL.out]; rfl, HKC.out, ⟨?_, ?_, ?_⟩, HB3.out⟩
        · have hsh := HSH.out
          rw [Nat.mul_one, Nat.mul_one, List.append_assoc, List.take_append_of_le_length (by rw [List.length_take, HZL.out]; omega), List.take_take, Nat.min_self, HTL.out] at hsh
          rw [← HIL.out]
          exact ⟨hsh, HHI.out⟩
        · intro h hh
          exact hcs3.out h (List.mem_filter.1 hh).1
        · exact HAP.out.sublist List.filter_sublist
  · have hidx := Lib.hid (idxP_none hany)
    have hkeep := Lib.hid (keep_none hany)
    go_enter Try.func147, Try.ntmps147
    go_wp2_with fail
    refine hcon.out.mono ?_; rintro e w1 ⟨rfl, hb1⟩
    rw [HIC.out, hidx.out]
    go_wp2
    go_ret
    refine ⟨hs, rfl, by rw [← HKC.out, hkeep.out], ho.bs hb1, hb1.mono hB⟩
end Go.Proofs.Ytdppmlchabogaaa
