/- Plain facts: what stays while 'close' runs behind its loop over the points. No program is in sight. -/
import Derived.Test.YtnombgiacfeloaaM7
import Derived.Test.YtnombgiacfeloaaM11
namespace Go.Proofs.Ytnombgiacfeloaa
set_option linter.unusedVariables false
set_option linter.unusedSimpArgs false
open Go.RowKit

structure CloseD (w wr : World) (D : Nat) (err : Int) (v rv : Value) : Prop where
  c : CloseCtx w wr err v rv
  d : wr.heap[D]? = some (.deferred (some []))
  lt : w.heap.size + 1 < D

theorem CloseD.dlt {w wr : World} {D : Nat} {err : Int} {v rv : Value} (h : CloseD w wr D err v rv) : D < wr.heap.size := (Array.getElem?_eq_some_iff.1 h.d).1
theorem CloseD.below {w wr w' : World} {D : Nat} {err : Int} {v rv : Value} (h : CloseD w wr D err v rv) (hb : Below wr.heap.size wr w') : CloseD w w' D err v rv :=
  ⟨h.c.below hb, (hb.block D h.dlt).trans h.d, h.lt⟩
theorem CloseD.alloc {w wr : World} {D : Nat} {err : Int} {v rv : Value} (h : CloseD w wr D err v rv) (o : Obj) : CloseD w (wr.alloc o) D err v rv := h.below (below_alloc1 wr o)
theorem CloseD.drew {w wr : World} {D : Nat} {err : Int} {v rv : Value} (h : CloseD w wr D err v rv) : CloseD w wr.drew D err v rv := ⟨h.c.drew, h.d, h.lt⟩
theorem CloseD.tab {w wr : World} {D : Nat} {err : Int} {v rv x : Value} (h : CloseD w wr D err v rv) (o : Nat) : CloseD w (wr.setCell ⟨w.heap.size + 1, o, none⟩ x) D err v rv :=
  ⟨h.c.set _ _ (by omega), (heap_setCell_ne (by have := h.lt; omega)).trans h.d, h.lt⟩
theorem CloseD.own {w wr : World} {D b : Nat} {err : Int} {v rv x : Value} (h : CloseD w wr D err v rv) (o : Nat) (hb : D < b) : CloseD w (wr.setCell ⟨b, o, none⟩ x) D err v rv :=
  ⟨h.c.set _ _ (by have := h.lt; omega), (heap_setCell_ne (by omega)).trans h.d, h.lt⟩

end Go.Proofs.Ytnombgiacfeloaa
