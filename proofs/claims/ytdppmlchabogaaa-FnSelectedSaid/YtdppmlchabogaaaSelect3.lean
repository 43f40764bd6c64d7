/- SelectEqual in the reference. -/
import Derived.Test.YtdppmlchabogaaaSelectAll
namespace Go.Proofs.Ytdppmlchabogaaa
open Go.RowKit

theorem sel_one {xs : List Int} {u : List UInt8} {s : ByteArray} {i j : Nat} (hu : u = textL (part xs (i : Int) (j : Int))) (hlg : legalL (part xs (i : Int) (j : Int)) = true) (hul : u.length = j - i) (hs : s.size = j - i) (hc : chaB s = true) : selB s s (i : Int) (j : Int) xs = !decide (bs_ u = s) := by
  have h1 : u.all chB = true := by rw [hu]; exact textL_ch hlg
  have h2 := cmpT_eq h1 hc (show u.length = (byt s).length by rw [byt_size, hul, hs])
  have h3 : (bs_ u = s) ↔ u = byt s := by
    constructor
    · intro h
      rw [← h]
      rfl
    · intro h
      rw [h]
      cases s
      rfl
  unfold selB
  rw [← hu]
  by_cases h : u = byt s
  · rw [h2.2 h, decide_eq_true (h3.2 h)]
    rfl
  · rw [decide_eq_false (fun e => h (h3.1 e))]
    have h4 : cmpT u (byt s) ≠ 0 := fun e => h (h2.1 e)
    rcases cmpN_range (u.map rankC) ((byt s).map rankC) with h5 | h5 | h5
    · have h6 : cmpT u (byt s) = -1 := h5
      rw [h6]; rfl
    · exact absurd h5 h4
    · have h6 : cmpT u (byt s) = 1 := h5
      rw [h6]; rfl
end Go.Proofs.Ytdppmlchabogaaa
