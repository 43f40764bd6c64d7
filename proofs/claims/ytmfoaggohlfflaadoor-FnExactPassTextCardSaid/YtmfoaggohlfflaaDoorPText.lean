/- PassText: the reference's (l07Text, PassText) and the program's (strings.Join). -/
import Derived.Test.YtmfoaggohlfflaaDoorDec
import Derived.Test.YtmfoaggohlfflaaDoorPasses
namespace Go.Proofs.YtmfoaggohlfflaaDoor
open Go.RowKit

/-! ### plain laws -/
def inC (z : Int) : Prop := -9223372036854775808 ≤ z ∧ z ≤ 9223372036854775807
def ptok (p : Int × Int) : List UInt8 := Lib.itoa p.1 ++ [if p.2 = 1 then 100 else 122]
def ptoks (xs : List (Int × Int)) : List (List UInt8) := xs.map ptok
def ptJ (xs : List (Int × Int)) : List UInt8 := Lib.join (ptoks xs) [32]
def modesOk (xs : List (Int × Int)) : Bool := xs.all fun p => modeB p.2
def passT (xs : List (Int × Int)) : List UInt8 := if modesOk xs = true then ptJ xs else []
theorem join_snoc (L : List (List UInt8)) (x sep : List UInt8) : Lib.join (L ++ [x]) sep = if L = [] then x else Lib.join L sep ++ sep ++ x := by
  cases L with
  | nil => simp [Lib.join_one]
  | cons y L => rw [if_neg (by simp), List.cons_append, Lib.join_cons, Lib.join_cons]; simp [Lib.joinTail]
theorem ptJ_first (xs : List (Int × Int)) (h : 0 < xs.length) : ptJ (xs.take (0 + 1)) = ptok xs[0] := by
  unfold ptJ ptoks
  rw [List.take_succ_eq_append_getElem h]
  simp [Lib.join_one]
theorem ptJ_next (xs : List (Int × Int)) (k : Nat) (h : k < xs.length) (h0 : ¬ k = 0) : ptJ (xs.take (k + 1)) = ptJ (xs.take k) ++ [32] ++ ptok xs[k] := by
  unfold ptJ ptoks
  rw [List.take_succ_eq_append_getElem h, List.map_append, List.map_cons, List.map_nil, join_snoc, if_neg]
  intro e
  have := congrArg List.length e
  simp only [List.length_map, List.length_take, List.length_nil] at this
  omega
theorem ptok_short {p : Int × Int} (h : inC p.1) : (ptok p).length ≤ 22 := by
  unfold ptok
  have := itoa_short h.1 h.2
  simp
  omega
theorem ptJ_short (xs : List (Int × Int)) (hc : ∀ p ∈ xs, inC p.1) : ∀ k, k ≤ xs.length → (ptJ (xs.take k)).length ≤ 23 * k
  | 0, _ => by simp [ptJ, ptoks, Lib.join_nil]
  | k + 1, h => by
    have hk : k < xs.length := by omega
    have h1 := ptok_short (hc _ (List.getElem_mem hk))
    have h2 := ptJ_short xs hc k (by omega)
    by_cases h0 : k = 0
    · subst h0
      rw [ptJ_first xs hk]; omega
    · rw [ptJ_next xs k hk h0]
      simp
      omega
theorem bs_size (s : List UInt8) : (bs_ s).size = s.length := by simp [bs_, ByteArray.size]

set_option maxRecDepth 20000 in
set_option maxHeartbeats 4000000 in
theorem l07Text_any (A : Option Addr) (c : Nat) (xs : List (Int × Int)) (w : World) (ra : Rd w w.heap.size 2 A xs.length (prs xs)) (hl : xs.length ≤ 1048576) (hc : ∀ p ∈ xs, inC p.1) :
    Calls Tryd.prog 13 #[.slice A xs.length c] w fun e w' => e = .returned (.string (bs_ (ptJ xs))) ∧ Below w.heap.size w w' := by
  go_enter Tryd.func13, Tryd.ntmps13
  go_wp2
  go_loopw [3, 4] (fun s i wr => ∃ k : Nat, k ≤ xs.length ∧ i = .int .i64 k ∧ s = .string (bs_ (ptJ (xs.take k))) ∧ Below w.heap.size w wr) (fun _ i _ => xs.length - (intOf i).toNat)
  case atStart => exact ⟨0, Nat.zero_le _, rfl, rfl, b0 w⟩
  case round =>
    obtain ⟨wo, rfl⟩ : ∃ wo : World, wo = wr := ⟨_, rfl⟩
    obtain ⟨k, hk, rfl, rfl, hbw⟩ := hrel
    by_cases hlt : k < xs.length
    · obtain ⟨b1, o1, rfl, hbb, hcc⟩ := ra.at_ hlt
      have d1 := cell_later hbw (hcc _ _ (prs_fst xs k hlt))
      have d2 := cell_later hbw (hcc _ _ (prs_snd xs k hlt))
      rw [← Nat.add_assoc] at d2
      have i1 : (k : Int) < (xs.length : Int) := by omega
      have HI := Lib.hid (hc _ (List.getElem_mem hlt))
      obtain ⟨J, hJ⟩ : ∃ J, J = ptJ (xs.take k) := ⟨_, rfl⟩
      have HJL := Lib.hid (show J.length ≤ 23 * k from hJ ▸ ptJ_short xs hc k (by omega))
      obtain ⟨T, hT⟩ : ∃ T, T = Lib.itoa xs[k].1 := ⟨_, rfl⟩
      have HTL := Lib.hid (show T.length ≤ 21 from hT ▸ itoa_short HI.out.1 HI.out.2)
      obtain ⟨m, hm⟩ : ∃ m, m = xs[k].2 := ⟨_, rfl⟩
      obtain ⟨z, hz⟩ : ∃ z, z = xs[k].1 := ⟨_, rfl⟩
      have HDC := Lib.hid (fun W : World => l01Dec_any xs[k].1 W HI.out.1 HI.out.2)
      have HST := Lib.hid (show ptJ (xs.take (k + 1)) = (if k = 0 then [] else J ++ [32]) ++ T ++ [if m = 1 then 100 else 122] by
        by_cases h0 : k = 0
        · subst h0
          rw [ptJ_first xs hlt, if_pos rfl, hT, hm]; rfl
        · rw [ptJ_next xs k hlt h0, if_neg h0, hJ, hT, hm]; simp [ptok])
      rw [← hT, ← hz] at HDC
      rw [← hz] at d1
      rw [← hm] at d2
      rw [← hJ]
      clear hJ hT hm hz hbb hcc
      by_cases k0 : k = 0
      · subst k0
        have k1 : ¬ (0 : Int) < ((0 : Nat) : Int) := by omega
        rw [show o1 + 0 * 2 = o1 by omega] at d1 d2
        have s2 : ¬ 9223372036854775807 < (bs_ J).size + (bs_ T).size := by rw [bs_size, bs_size]; have := HJL.out; have := HTL.out; omega
        have s3 : ∀ x : UInt8, ¬ 9223372036854775807 < (bs_ J ++ bs_ T).size + (⟨#[x]⟩ : ByteArray).size := fun x => by rw [ByteArray.size_append, bs_size, bs_size, show (⟨#[x]⟩ : ByteArray).size = 1 from rfl]; have := HJL.out; have := HTL.out; omega
        have s4 := s3 100
        have s5 := s3 122
        clear s3
        by_cases hm1 : m = 1
        · have HR := Lib.hid (show bs_ J ++ bs_ T ++ (⟨#[100]⟩ : ByteArray) = bs_ (ptJ (xs.take (0 + 1))) by
            rw [HST.out, if_pos rfl, if_pos hm1, show (⟨#[100]⟩ : ByteArray) = bs_ [100] from rfl]
            simp only [cat_bs]
            rw [show J = [] from List.eq_nil_of_length_eq_zero (by have := HJL.out; omega)])
          go_wp2_with fail
          refine (HDC.out _).mono ?_; rintro e w1 ⟨rfl, hb1⟩
          replace d2 := cell_later hb1 d2
          have HB := Lib.hid (bs hbw hb1)
          clear hb1 hbw d1
          go_wp2
          rw [HR.out]
          go_roundw
          case rel => exact ⟨0 + 1, by omega, by go_num, rfl, HB.out⟩
          case measure => simp [intOf]; omega
        · have HR := Lib.hid (show bs_ J ++ bs_ T ++ (⟨#[122]⟩ : ByteArray) = bs_ (ptJ (xs.take (0 + 1))) by
            rw [HST.out, if_pos rfl, if_neg hm1, show (⟨#[122]⟩ : ByteArray) = bs_ [122] from rfl]
            simp only [cat_bs]
            rw [show J = [] from List.eq_nil_of_length_eq_zero (by have := HJL.out; omega)])
          go_wp2_with fail
          refine (HDC.out _).mono ?_; rintro e w1 ⟨rfl, hb1⟩
          replace d2 := cell_later hb1 d2
          have HB := Lib.hid (bs hbw hb1)
          clear hb1 hbw d1
          go_wp2
          rw [HR.out]
          go_roundw
          case rel => exact ⟨0 + 1, by omega, by go_num, rfl, HB.out⟩
          case measure => simp [intOf]; omega
      · have k1 : (0 : Int) < (k : Int) := by omega
        have s1 : ¬ 9223372036854775807 < (bs_ J).size + (⟨#[32]⟩ : ByteArray).size := by rw [bs_size, show (⟨#[32]⟩ : ByteArray).size = 1 from rfl]; have := HJL.out; omega
        have s2 : ¬ 9223372036854775807 < (bs_ J ++ (⟨#[32]⟩ : ByteArray)).size + (bs_ T).size := by rw [ByteArray.size_append, show (⟨#[32]⟩ : ByteArray).size = 1 from rfl, bs_size, bs_size]; have := HJL.out; have := HTL.out; omega
        have s3 : ∀ x : UInt8, ¬ 9223372036854775807 < (bs_ J ++ (⟨#[32]⟩ : ByteArray) ++ bs_ T).size + (⟨#[x]⟩ : ByteArray).size := fun x => by rw [ByteArray.size_append, ByteArray.size_append, show (⟨#[32]⟩ : ByteArray).size = 1 from rfl, bs_size, bs_size, show (⟨#[x]⟩ : ByteArray).size = 1 from rfl]; have := HJL.out; have := HTL.out; omega
        have s4 := s3 100
        have s5 := s3 122
        clear s3
        by_cases hm1 : m = 1
        · have HR := Lib.hid (show bs_ J ++ (⟨#[32]⟩ : ByteArray) ++ bs_ T ++ (⟨#[100]⟩ : ByteArray) = bs_ (ptJ (xs.take (k + 1))) by
            rw [HST.out, if_neg k0, if_pos hm1, show (⟨#[100]⟩ : ByteArray) = bs_ [100] from rfl]; rw [show (⟨#[32]⟩ : ByteArray) = bs_ [32] from rfl]
            simp only [cat_bs])
          go_wp2_with fail
          refine (HDC.out _).mono ?_; rintro e w1 ⟨rfl, hb1⟩
          replace d2 := cell_later hb1 d2
          have HB := Lib.hid (bs hbw hb1)
          clear hb1 hbw d1
          go_wp2
          rw [HR.out]
          go_roundw
          case rel => exact ⟨k + 1, by omega, by go_num, rfl, HB.out⟩
          case measure => simp [intOf]; omega
        · have HR := Lib.hid (show bs_ J ++ (⟨#[32]⟩ : ByteArray) ++ bs_ T ++ (⟨#[122]⟩ : ByteArray) = bs_ (ptJ (xs.take (k + 1))) by
            rw [HST.out, if_neg k0, if_neg hm1, show (⟨#[122]⟩ : ByteArray) = bs_ [122] from rfl]; rw [show (⟨#[32]⟩ : ByteArray) = bs_ [32] from rfl]
            simp only [cat_bs])
          go_wp2_with fail
          refine (HDC.out _).mono ?_; rintro e w1 ⟨rfl, hb1⟩
          replace d2 := cell_later hb1 d2
          have HB := Lib.hid (bs hbw hb1)
          clear hb1 hbw d1
          go_wp2
          rw [HR.out]
          go_roundw
          case rel => exact ⟨k + 1, by omega, by go_num, rfl, HB.out⟩
          case measure => simp [intOf]; omega
    · obtain rfl : k = xs.length := by omega
      rw [List.take_length]
      go_wp2
      go_ret
      exact ⟨rfl, hbw⟩
theorem passT_yes {xs : List (Int × Int)} (h : modesOk xs = true) : passT xs = ptJ xs := by unfold passT; rw [if_pos h]
theorem passT_no {xs : List (Int × Int)} (h : modesOk xs = false) : passT xs = [] := by unfold passT; rw [if_neg (by simp [h])]
theorem modes_bad {xs : List (Int × Int)} {k : Nat} (h : k < xs.length) (hb : modeB xs[k].2 = false) : modesOk xs = false := List.all_eq_false.2 ⟨xs[k], List.getElem_mem h, by simp [hb]⟩
theorem modes_all {xs : List (Int × Int)} (h : ∀ j (hj : j < xs.length), modeB xs[j].2 = true) : modesOk xs = true := List.all_eq_true.2 fun p hp => by
  obtain ⟨j, hj, rfl⟩ := List.getElem_of_mem hp
  exact h j hj

set_option maxRecDepth 20000 in
set_option maxHeartbeats 4000000 in
theorem spPassText_any (A : Option Addr) (c : Nat) (xs : List (Int × Int)) (w : World) (ra : Rd w w.heap.size 2 A xs.length (prs xs)) (hl : xs.length ≤ 1048576) (hc : ∀ p ∈ xs, inC p.1) :
    Calls Tryd.prog 6 #[.slice A xs.length c] w fun e w' => e = .returned (.string (bs_ (passT xs))) ∧ Below w.heap.size w w' := by
  go_enter Tryd.func6, Tryd.ntmps6
  go_wp2
  go_loopw [3] (fun i wr => ∃ k : Nat, k ≤ xs.length ∧ i = .int .i64 k ∧ (∀ j (hj : j < xs.length), j < k → modeB xs[j].2 = true) ∧ Below w.heap.size w wr) (fun i _ => xs.length - (intOf i).toNat)
  case atStart => exact ⟨0, Nat.zero_le _, rfl, fun _ _ h => absurd h (by omega), b0 w⟩
  case round =>
    obtain ⟨wo, rfl⟩ : ∃ wo : World, wo = wr := ⟨_, rfl⟩
    obtain ⟨k, hk, rfl, hno, hbw⟩ := hrel
    have HNO := Lib.hid hno
    clear hno
    by_cases hlt : k < xs.length
    · obtain ⟨b1, o1, rfl, hbb, hcc⟩ := ra.at_ hlt
      have d2 := cell_later hbw (hcc _ _ (prs_snd xs k hlt))
      rw [← Nat.add_assoc] at d2
      have i1 : (k : Int) < (xs.length : Int) := by omega
      obtain ⟨m, hm⟩ : ∃ m, m = xs[k].2 := ⟨_, rfl⟩
      rw [← hm] at d2
      clear hbb hcc
      cases hmb : modeB m with
      | true =>
        have HP := Lib.hid (show ∀ j (hj : j < xs.length), j < k + 1 → modeB xs[j].2 = true from fun j hj h => by
          by_cases e : j = k
          · subst e; rw [← hm]; exact hmb
          · exact HNO.out j hj (by omega))
        clear hm
        go_wp2_with fail
        refine (l07Mode_any m _).mono ?_; rintro e w1 ⟨rfl, rfl⟩
        rw [hmb]
        clear hmb
        go_wp2
        go_roundw
        case rel => exact ⟨k + 1, by omega, by go_num, HP.out, hbw⟩
        case measure => simp [intOf]; omega
      | false =>
        have HE := Lib.hid (show passT xs = [] from passT_no (modes_bad hlt (by rw [← hm]; exact hmb)))
        clear hm
        go_wp2_with fail
        refine (l07Mode_any m _).mono ?_; rintro e w1 ⟨rfl, rfl⟩
        rw [hmb]
        clear hmb
        go_wp2
        go_ret
        exact ⟨ret_t (by rw [HE.out]; rfl), hbw⟩
    · obtain rfl : k = xs.length := by omega
      have HE := Lib.hid (show ptJ xs = passT xs from (passT_yes (modes_all fun j hj => HNO.out j hj hj)).symm)
      have HC := Lib.hid (fun x => l07Text_any A c xs wo x hl hc)
      have ra1 := ra.up hbw
      clear hc HNO
      go_wp2_with fail
      refine (HC.out ra1).mono ?_; rintro e w1 ⟨rfl, hb1⟩
      have HB := Lib.hid (bs hbw hb1)
      clear hb1 hbw
      go_wp2
      go_ret
      exact ⟨ret_t (by rw [HE.out]), HB.out⟩
end Go.Proofs.YtmfoaggohlfflaaDoor
