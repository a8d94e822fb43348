/-
  Plain: what the error of Circle says.
-/
import Derived.Test.YtndgaklcnhoddaaWide
namespace Go.Proofs.Ytndgaklcnhoddaa
open Go.RowKit Go.Shelf
theorem tval_circ {ks : List Int} (h : circleErr ks = 0) : TVal ks := by
  unfold circleErr at h
  by_cases e : tchk ks = 0
  · exact tval_of e
  · rw [if_pos e] at h; exact absurd h e
theorem safe_circ0 {ks : List Int} (h : circleErr ks = 0) : SafeP (nxS ks) (zeroS ks) := by
  have v := tval_circ h
  unfold circleErr at h
  rw [if_neg (fun e => e (tchk_of v))] at h
  by_cases e : rowOf (nxS ks) (zeroS ks) < 0
  · exact rowOf_neg.1 e
  · rw [if_neg e] at h; cases h
end Go.Proofs.Ytndgaklcnhoddaa
