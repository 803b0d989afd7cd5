/- The statement 'StubMore', walked: both cases. -/
import Derived.Test.YtnombgiacfeloaaL11a
import Derived.Test.YtnombgiacfeloaaL11b
namespace Go.Proofs.Ytnombgiacfeloaa
set_option linter.unusedVariables false
set_option linter.unusedSimpArgs false
open Go.RowKit

theorem more_law (err : Int) (v : Value) (ss : List Stp) (rv : Value) (rs : List Int) (y0 y1 y2 : Int) (w : World) (h : Rd w 4 v (stpRows ss)) (hs : NamesFit ss) (hr : Rd w 1 rv (ints rs)) (hy : (0 ≤ y0 ∧ y0 ≤ 4294967295) ∧ (0 ≤ y1 ∧ y1 ≤ 4294967295) ∧ (0 ≤ y2 ∧ y2 ≤ 4294967295)) :
    Calls Try.prog 11 #[.agg #[.int .i64 err, v], rv, .agg #[.int .u32 y0, .int .u32 y1, .int .u32 y2]] w fun e w' => e = .returned (.bool true) ∧ Below w.heap.size w w' := by
  by_cases hcs : y2 % 100 < err
  · exact more_lawa err v ss rv rs y0 y1 y2 w h hs hr hy hcs
  · exact more_lawb err v ss rv rs y0 y1 y2 w h hs hr hy hcs

end Go.Proofs.Ytnombgiacfeloaa
