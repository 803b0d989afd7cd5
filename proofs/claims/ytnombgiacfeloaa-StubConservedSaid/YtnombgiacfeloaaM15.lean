/- Plain facts: what Lost, Off, Weights and Cheats return, by the tightened table. No program is in sight. -/
import Derived.Test.YtnombgiacfeloaaM13
import Derived.Test.YtnombgiacfeloaaM14
namespace Go.Proofs.Ytnombgiacfeloaa
set_option linter.unusedVariables false
set_option linter.unusedSimpArgs false
open Go.RowKit

theorem closed_bd {err : Int} {ss : List Stp} {rs : List Int} (hL : LineOk err ss) (hR : ReadOk ss rs) (a b : Nat) : -4000000000000 ≤ closed err ss rs a b ∧ closed err ss rs a b ≤ 2000000 := by
  have := fw_bd (liveOf ss) (tabOf err ss rs) (tabOf_bd hL hR) 8 a b
  have e : (6 : Int) ^ 8 * 2000000 = 3359232000000 := by decide
  rw [e] at this
  unfold closed
  omega

/-- The error of Lost. -/
def lostErr (err : Int) (ss : List Stp) (rs : List Int) (x y : Int) : Int :=
  if askErr err ss rs ≠ 0 then askErr err ss rs else if anyOut 0 ss.length [x, y] = true ∨ y ≤ x then 4 else if sound (closed err ss rs) = true then 0 else 9

/-- What Lost returns beside it. -/
def lostAt (err : Int) (ss : List Stp) (rs : List Int) (x y : Int) : Int × Int :=
  if lostErr err ss rs x y = 0 then (-closed err ss rs y.toNat x.toNat, closed err ss rs x.toNat y.toNat) else (0, 0)

/-- Off: its error, and what it returns beside it. -/
def offErr (err : Int) (ss : List Stp) (rs : List Int) (p : Int) : Int :=
  if askErr err ss rs ≠ 0 then askErr err ss rs else if anyOut 0 ss.length [p] = true ∨ rs[p.toNat]? = some (-1) then 4 else if sound (closed err ss (rs.set p.toNat (-1))) = true then 0 else 9
def offAt (err : Int) (ss : List Stp) (rs : List Int) (p : Int) : Int × Int :=
  if offErr err ss rs p = 0 then ((rs[p.toNat]?.getD 0) - closed err ss (rs.set p.toNat (-1)) p.toNat 7, (rs[p.toNat]?.getD 0) + closed err ss (rs.set p.toNat (-1)) 7 p.toNat) else (0, 0)

/-- Weights. -/
def wErr (err : Int) (ss : List Stp) (rs : List Int) : Int := if askErr err ss rs ≠ 0 then askErr err ss rs else if sound (closed err ss rs) = true then 0 else 9
def wList (err : Int) (ss : List Stp) (rs : List Int) (k : Nat) : List (Int × Int) := (List.range k).map fun i => (-closed err ss rs 7 i, closed err ss rs i 7)
def wAt (err : Int) (ss : List Stp) (rs : List Int) : List (Int × Int) := if wErr err ss rs = 0 then wList err ss rs rs.length else []

/-- Cheats. -/
def cheatsTo (err : Int) (ss : List Stp) (rs : List Int) (k : Nat) : List Int := ((List.range k).filter fun i : Nat => sound (closed err ss (rs.set i (-1)))).map fun i : Nat => (i : Int)
def cErr (err : Int) (ss : List Stp) (rs : List Int) : Int := if askErr err ss rs ≠ 0 then askErr err ss rs else if sound (closed err ss rs) = true then 4 else if cheatsTo err ss rs rs.length = [] then 9 else 0
def cAt (err : Int) (ss : List Stp) (rs : List Int) : List Int := if cErr err ss rs = 0 then cheatsTo err ss rs rs.length else []

end Go.Proofs.Ytnombgiacfeloaa
