/- A list of passes without one of them: 'append(append([]Pass{}, list[:k]...), list[k+1:]...)'. -/
import Derived.Test.YtkmejkeanmjfbaaDoorWords
import Derived.Deep.RegionLaw
namespace Go.Proofs.YtkmejkeanmjfbaaDoor
open Go.RowKit

theorem Rd.pre {w : World} {B size n : Nat} {A : Option Addr} {xs : List Value} (h : Rd w B size A n xs) {k : Nat} (hk : k ≤ n) : Rd w B size A k (xs.take (k * size)) := by
  have hm : k * size ≤ n * size := Nat.mul_le_mul_right _ hk
  refine ⟨by rw [List.length_take, h.1]; omega, fun hn => ?_⟩
  obtain ⟨b, off, e, hb, hc⟩ := h.2 (by omega)
  refine ⟨b, off, e, hb, fun j u hu => hc j u ?_⟩
  rw [List.getElem?_take] at hu
  split at hu
  · exact hu
  · cases hu
/-- What lies behind the first k elements, wherever the cut's address points. -/
theorem Rd.post {w : World} {B size n b o : Nat} {xs : List Value} (h : Rd w B size (some ⟨b, o, none⟩) n xs) {k : Nat} (hk : k ≤ n) : Rd w B size (some ⟨b, o + k * size, none⟩) (n - k) (xs.drop (k * size)) := by
  have hm : k * size ≤ n * size := Nat.mul_le_mul_right _ hk
  have hs : (n - k) * size = n * size - k * size := Nat.sub_mul ..
  refine ⟨by rw [List.length_drop, h.1, hs], fun hn => ?_⟩
  obtain ⟨b', off', e, hb, hc⟩ := h.2 (by omega)
  injection e with e
  injection e with e1 e2
  subst e1
  subst e2
  refine ⟨b, o + k * size, rfl, hb, fun j u hu => ?_⟩
  rw [List.getElem?_drop] at hu
  rw [Nat.add_assoc]
  exact hc _ _ hu
theorem Rd.zero {w : World} {B size n : Nat} {A A' : Option Addr} {xs : List Value} (h : Rd w B size A n xs) (hn : n = 0) : Rd w B size A' n xs := by
  subst hn
  have : xs = [] := List.eq_nil_of_length_eq_zero (by simpa using h.1)
  subst this
  exact Rd.nil _ _ _ _
theorem prs_drop (ps : List (Int × Int)) (k : Nat) : (prs ps).drop (k * 2) = prs (ps.drop k) := by
  induction ps generalizing k with
  | nil => simp [prs]
  | cons p ps ih =>
    cases k with
    | zero => simp
    | succ k =>
      rw [prs_cons, show (k + 1) * 2 = k * 2 + 1 + 1 by omega, List.drop_succ_cons, List.drop_succ_cons, ih]
      simp

section
variable {P : Program}
/-- 'append(out, list...)' at a step of a region that draws its order. -/
theorem step_apc {ops : Array Oper} {o : Oper} {a : Act} {K : Act → World → Prop} {Q : Exit → Act → World → Prop} {E : Prop} (hgd : o.guard = none) (s x : Operand) (t : TypeId)
    (ho : o.op = .call { callee := .builtin .append, args := #[s, x], argTypes := #[t, t] })
    (base : Nat) (e : TypeId) (i : TypeInfo) (z : Value) (size bytes : Nat) (ht : P.underlying t = some (.slice e)) (hi : P.info? e = some i) (hz : i.zero = some z)
    (hsize : i.size = size) (hby : i.bytes = bytes) (hzs : z.cells.size = size) (hsz : 0 < size)
    (A : Option Addr) (n c : Nat) (xs : List Value) (w : World) (hs : a.eval s = .slice A n c) (hown : w.ownsRow base e size (.slice A n c) n xs) (B : Nat) (A' : Option Addr) (m c' : Nat) (news : List Value) (hx : a.eval x = .slice A' m c') (hr : Rd w B size A' m news) (h1 : ∀ u ∈ news, u.oneCell' = true)
    (h63 : n + m ≤ 1099511627776) (hbytes : bytes ≤ 128) (hbase : base ≤ w.heap.size) (N : Nat) (hN : n + m = N) (zs : List Value) (hzs' : xs ++ news = zs)
    (h : ∀ G cap w', w'.ownsRow base e size (.slice G N cap) N zs → Below base w w' → K (a.put o.dst (.slice G N cap)) w') :
    if Region.wanted o (yielded ops a.tmps) = true then Oper.wp P o a w K Q else E := by
  subst hN hzs'
  have hw : Region.wanted o (yielded ops a.tmps) = true := by simp [Region.wanted, hgd]
  rw [if_pos hw]
  obtain ⟨G, cap, w', hrun, h2, h3⟩ := run_append_src (P := P) base t o.type e i z size bytes ht hi hz hsize hby hzs hsz A n c xs hown B A' m c' news hr h1 h63 hbytes hbase
  unfold Oper.wp execOp
  simp only [ho, resolve, invoke, builtin, Sem.run_bind, Sem.run_pure, Result.andThen_ok, List.map_toArray, List.map_cons, List.map_nil, hs, hx, hrun]
  exact h G cap w' h2 ((Below.refl _ _).grown h3 hbase fun k hk => (hown.lt k hk).1)
end
end Go.Proofs.YtkmejkeanmjfbaaDoor
