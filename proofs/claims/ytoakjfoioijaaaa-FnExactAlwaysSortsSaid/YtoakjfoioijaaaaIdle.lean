/- IsIdlePass; in the program and in the reference. -/
import Derived.Test.YtoakjfoioijaaaaFuncsCard
import Derived.Test.YtoakjfoioijaaaaPocketOf
namespace Go.Proofs.Ytoakjfoioijaaaa
open Go.RowKit

def pkt (x : List Int) (i : Nat) (b : Int) : Int := pocketI (x.getD i 0) b
def idleB (L : List (List Int)) (i : Nat) (b : Int) : Bool := !(L.any fun x => pkt x i b != pkt (L.headD []) i b)
def code7 (L : List (List Int)) (a b : Int) : Int := if deckOk L = true then (if passOk (deckW L : Int) (a, b) = true then 0 else 2) else 1
theorem code7_1 {L : List (List Int)} {a b : Int} (h : deckOk L = false) : code7 L a b = 1 := by unfold code7; rw [if_neg (by simp [h])]
theorem code7_2 {L : List (List Int)} {a b : Int} (h : deckOk L = true) (h2 : passOk (deckW L : Int) (a, b) = false) : code7 L a b = 2 := by unfold code7; rw [if_pos h, if_neg (by simp [h2])]
theorem code7_0 {L : List (List Int)} {a b : Int} (h : deckOk L = true) (h2 : passOk (deckW L : Int) (a, b) = true) : code7 L a b = 0 := by unfold code7; rw [if_pos h, if_pos h2]
theorem code7_zero {L : List (List Int)} {a b : Int} (h : code7 L a b = 0) : deckOk L = true ∧ passOk (deckW L : Int) (a, b) = true := by
  unfold code7 at h
  split at h
  · rename_i h1
    split at h
    · rename_i h2
      exact ⟨h1, h2⟩
    · simp at h
  · simp at h
theorem first_code {L : List (List Int)} {a b : Int} {q : Bool} (h : deckOk L = true) (h2 : passOk (deckW L : Int) (a, b) = q) : code7 L a b = if q = true then 0 else 2 := by unfold code7; rw [if_pos h, h2]
def idleRes (L : List (List Int)) (a b : Int) : Bool := if code7 L a b = 0 then idleB L a.toNat b else false
theorem ret_bi {p q : Bool} {a b : Int} (h : p = q) (k : a = b) : Ending.returned (.tuple #[.bool p, .int .i64 a]) = .returned (.tuple #[.bool q, .int .i64 b]) := by rw [h, k]
theorem pkt_hd {x : List Int} {i : Nat} (h : i < x.length) (b : Int) : pkt x i b = pocketI x[i] b := by unfold pkt; simp [List.getD, List.getElem?_eq_getElem h]
theorem head_cards {hs : List Hd} (h : 0 < hs.length) : (cards hs).headD [] = hs[0].xs := by
  cases hs with
  | nil => simp at h
  | cons x hs => rfl
theorem deck_col {hs : List Hd} (h : deckOk (cards hs) = true) {i : Nat} (hi : i < deckW (cards hs)) {k : Nat} (hk : k < hs.length) : i < hs[k].xs.length := by
  have h1 := deckOk_hd h hk
  rw [deckW_pos (by omega)] at hi
  have h2 := deckOk_hd h (k := 0) (by omega)
  omega

theorem idle_bad {hs : List Hd} {i : Nat} {b : Int} {k : Nat} (hk : k < hs.length) (h : ¬ pkt hs[k].xs i b = pkt ((cards hs).headD []) i b) : idleB (cards hs) i b = false := by
  unfold idleB
  rw [show (cards hs).any (fun x => pkt x i b != pkt ((cards hs).headD []) i b) = true from List.any_eq_true.2 ⟨hs[k].xs, by simp only [cards]; exact List.mem_map_of_mem (List.getElem_mem hk), by simpa using h⟩]
  rfl
theorem zero_case (hs : List Hd) (i : Nat) (b : Int) : ∀ j (hj : j < hs.length), j < 1 → pkt hs[j].xs i b = pkt ((cards hs).headD []) i b := by
  intro j hj h
  obtain rfl : j = 0 := by omega
  rw [head_cards hj]
theorem idle_end {hs : List Hd} {i : Nat} {b : Int} (h : ∀ k (hk : k < hs.length), pkt hs[k].xs i b = pkt ((cards hs).headD []) i b) : idleB (cards hs) i b = true := by
  unfold idleB
  rw [show (cards hs).any (fun x => pkt x i b != pkt ((cards hs).headD []) i b) = false from by
    rw [List.any_eq_false]
    intro x hx
    simp only [cards, List.mem_map] at hx
    obtain ⟨y, hy, rfl⟩ := hx
    obtain ⟨k, hk, rfl⟩ := List.mem_iff_getElem.1 hy
    simpa using h k hk]
  rfl

set_option maxHeartbeats 1000000 in
theorem l07Code_any (D : Option Addr) (c : Nat) (hs : List Hd) (a b : Int) (w : World) (ha : RdD w w.heap.size D hs) (hl : hs.length + tot hs ≤ 1048576) :
    Calls Try.prog 98 #[.slice D hs.length c, .agg #[.int .i64 a, .int .i64 b]] w fun e w' => e = .returned (.int .i64 (code7 (cards hs) a b)) ∧ Below w.heap.size w w' := by
  have T0 : Below w.heap.size w (w.alloc (.cells #[.int .i64 a, .int .i64 b] 76)) := ba (b0 _) _
  replace ha := ha.a1 (.cells #[.int .i64 a, .int .i64 b] 76)
  rcases Bool.eq_false_or_eq_true (deckOk (cards hs)) with h1 | h1
  · have hw := deckOk_wid h1
    rcases Bool.eq_false_or_eq_true (passOk (deckW (cards hs) : Int) (a, b)) with h2 | h2
    all_goals
      have HR := Lib.hid (first_code h1 h2)
      go_enter Try.func98, Try.ntmps98
      go_wp2_with fail
      refine (l02Deck_any _ _ hs _ ha hl).mono ?_; rintro e w1 ⟨rfl, hb1⟩
      have k2 : w1.cell? ⟨w.heap.size, 0, none⟩ = some (.int .i64 a) := cell_later hb1 (cell_new rfl rfl)
      have k3 : w1.cell? ⟨w.heap.size, 1, none⟩ = some (.int .i64 b) := cell_later hb1 (cell_new rfl rfl)
      have l2 := fun x : Later w1 => lat_cell x k2
      have l3 := fun x : Later w1 => lat_cell x k3
      have hra := ha.up hb1
      go_wp2_with fail
      refine wp_region_later (by kernel_rfl) (by kernel_rfl) ?_
      repeat (go_big_quiet_step ((first | (go_at_call 101; exact lat_pure (l07Width_any _ _ hs _ (hra.up (Later.below _)) hl)) | (go_at_call 100; exact lat_call (l07Pass_any _ _ _ _ (by omega) (by omega))))))
      refine wpQuiet_nil ?_
      intro w2 hb2
      go_wp2
      go_ret
      exact ⟨ret_int (by rw [HR.out]; simp), bs (bs T0 hb1) hb2⟩
  · have HR := Lib.hid (code7_1 (a := a) (b := b) h1)
    go_enter Try.func98, Try.ntmps98
    go_wp2_with fail
    refine (l02Deck_any _ _ hs _ ha hl).mono ?_; rintro e w1 ⟨rfl, hb1⟩
    go_wp2
    go_ret
    exact ⟨ret_int HR.out.symm, bs T0 hb1⟩

end Go.Proofs.Ytoakjfoioijaaaa
