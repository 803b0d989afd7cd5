/- Plain facts: the points of a line as a list, and the table that their readings make. No program is in sight. -/
import Derived.Test.YtnombgiacfeloaaM6
import Derived.Test.YtnombgiacfeloaaW12
namespace Go.Proofs.Ytnombgiacfeloaa
set_option linter.unusedVariables false
set_option linter.unusedSimpArgs false
open Go.RowKit

/-- The table when some points have been met. -/
def tabL (lo hi : Nat → Int) {n : Nat} (pre : List (Pts n)) : Tab := pre.foldl (fun M x => put (put M x.1 7 (hi x.1)) 7 x.1 (-lo x.1)) tab0

theorem tabL_snoc (lo hi : Nat → Int) {n : Nat} (pre : List (Pts n)) (x : Pts n) : tabL lo hi (pre ++ [x]) = put (put (tabL lo hi pre) x.1 7 (hi x.1)) 7 x.1 (-lo x.1) := by simp [tabL]

theorem tabL_pts (lo hi : Nat → Int) (n k : Nat) (h : k ≤ n) : tabL lo hi (ptsTo n k h) = tabR lo hi k := by
  induction k with
  | zero => rfl
  | succ k ih => rw [ptsTo, tabL_snoc, ih]; rfl

theorem lo_bd {err : Int} {ss : List Stp} {rs : List Int} (hL : LineOk err ss) (hR : ReadOk ss rs) (i : Nat) (hi : i < rs.length) : 0 ≤ loAt err ss rs i ∧ loAt err ss rs i ≤ 1000000 := by
  have h1 := wrong_bd hL i
  have h2 := hR.rd rs[i] (List.getElem_mem _)
  unfold loAt rdLo
  rw [List.getElem?_eq_getElem hi]
  simp only [Option.getD_some]
  split <;> omega
theorem hi_bd {err : Int} {ss : List Stp} {rs : List Int} (hL : LineOk err ss) (hR : ReadOk ss rs) (i : Nat) (hi : i < rs.length) : 0 ≤ hiAt err ss rs i ∧ hiAt err ss rs i ≤ 1000000 := by
  have h1 := wrong_bd hL i
  have h2 := hR.rd rs[i] (List.getElem_mem _)
  unfold hiAt rdHi
  rw [List.getElem?_eq_getElem hi]
  simp only [Option.getD_some]
  split <;> omega

end Go.Proofs.Ytnombgiacfeloaa
