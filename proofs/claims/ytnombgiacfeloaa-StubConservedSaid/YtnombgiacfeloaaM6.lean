/- Plain facts: the tightening of differences ('close'). No program is in sight. -/
import Derived.Test.YtnombgiacfeloaaM5
namespace Go.Proofs.Ytnombgiacfeloaa
set_option linter.unusedVariables false
set_option linter.unusedSimpArgs false
open Go.RowKit

/-- A table of differences: by how much the first is above the second, at most. -/
abbrev Tab := Nat → Nat → Int

def put (M : Tab) (i k : Nat) (v : Int) : Tab := fun a b => if a = i ∧ b = k then v else M a b

theorem put_same (M : Tab) (i k : Nat) (v : Int) : put M i k v i k = v := by simp [put]
theorem put_other (M : Tab) (i k : Nat) (v : Int) (a b : Nat) (h : ¬ (a = i ∧ b = k)) : put M i k v a b = M a b := by simp [put, h]

/-- One tightening: over j. -/
def upd (M : Tab) (j i k : Nat) : Tab := put M i k (min (M i k) (M i j + M j k))

/-- The first k places of row i. -/
def rowTo (M : Tab) (j i : Nat) : Nat → Tab
  | 0 => M
  | k + 1 => upd (rowTo M j i k) j i k

/-- The first i rows; those that are not live are skipped. -/
def colTo (live : Nat → Bool) (M : Tab) (j : Nat) : Nat → Tab
  | 0 => M
  | i + 1 => if live i then rowTo (colTo live M j i) j i 8 else colTo live M j i

/-- Over the first j. -/
def fwTo (live : Nat → Bool) (M : Tab) : Nat → Tab
  | 0 => M
  | j + 1 => colTo live (fwTo live M j) j 8

/-- The table before anything is known. -/
def tab0 : Tab := fun a b => if a = b then 0 else 2000000

/-- With what the readings of the first points say. -/
def tabR (lo hi : Nat → Int) : Nat → Tab
  | 0 => tab0
  | i + 1 => put (put (tabR lo hi i) i 7 (hi i)) 7 i (-lo i)

/-- With what the first steps lose. -/
def tabS (M : Tab) (slo shi : Nat → Int) : Nat → Tab
  | 0 => M
  | i + 1 => put (put (tabS M slo shi i) i (i + 1) (shi i)) (i + 1) i (-slo i)

end Go.Proofs.Ytnombgiacfeloaa
