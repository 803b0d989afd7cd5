/- Plain facts: a table of 8 by 8 numbers that lies in a block. No program is in sight. -/
import Derived.Test.YtnombgiacfeloaaM6
import Derived.Test.YtnombgiacfeloaaM4
namespace Go.Proofs.Ytnombgiacfeloaa
set_option linter.unusedVariables false
set_option linter.unusedSimpArgs false
open Go.RowKit

def tabCells (M : Tab) : Array Value := Array.ofFn (n := 64) fun t => Value.int .i64 (M (t.val / 8) (t.val % 8))

theorem tabCells_size (M : Tab) : (tabCells M).size = 64 := by simp [tabCells]

theorem tabCells_get (M : Tab) (a b : Nat) (ha : a < 8) (hb : b < 8) : (tabCells M)[a * 8 + b]? = some (.int .i64 (M a b)) := by
  have h : a * 8 + b < 64 := by omega
  have h1 : (a * 8 + b) / 8 = a := by omega
  have h2 : (a * 8 + b) % 8 = b := by omega
  simp [tabCells, h, h1, h2]

theorem tabCells_put (M : Tab) (i k : Nat) (v : Int) (hi : i < 8) (hk : k < 8) : (tabCells M).setIfInBounds (i * 8 + k) (.int .i64 v) = tabCells (put M i k v) := by
  apply Array.ext
  · simp [tabCells]
  · intro t h1 h2
    have ht : t < 64 := by simpa [tabCells] using h2
    rw [Array.getElem_setIfInBounds]
    · by_cases h : i * 8 + k = t
      · rw [if_pos h]
        have e1 : t / 8 = i := by omega
        have e2 : t % 8 = k := by omega
        simp [tabCells, put, e1, e2]
      · rw [if_neg h]
        have e : ¬ (t / 8 = i ∧ t % 8 = k) := by omega
        simp [tabCells, put, e]
    · simpa [tabCells] using ht

/-- Block B holds the table M. -/
def TabAt (w : World) (B : Nat) (M : Tab) : Prop := w.heap[B]? = some (.cells (tabCells M) 116 (0, 0))

theorem TabAt.lt {w : World} {B : Nat} {M : Tab} (h : TabAt w B M) : B < w.heap.size := (Array.getElem?_eq_some_iff.1 h).1
theorem TabAt.cell {w : World} {B : Nat} {M : Tab} (h : TabAt w B M) (a b : Nat) (ha : a < 8) (hb : b < 8) : w.cell? ⟨B, a * 8 + b, none⟩ = some (.int .i64 (M a b)) := by
  rw [cell_of_row w B _ _ 116 (0, 0) h]
  exact tabCells_get M a b ha hb
theorem TabAt.frozen {w : World} {B : Nat} {M : Tab} (h : TabAt w B M) (o : Nat) : w.frozen? ⟨B, o, none⟩ = false := frozen_of_row h
theorem TabAt.set {w : World} {B : Nat} {M : Tab} (h : TabAt w B M) (i k : Nat) (v : Int) (hi : i < 8) (hk : k < 8) : TabAt (w.setCell ⟨B, i * 8 + k, none⟩ (.int .i64 v)) B (put M i k v) := by
  have h' : w.heap[B]? = some (.cells (tabCells M).toList.toArray 116 (0, 0)) := by rw [Array.toArray_toList]; exact h
  have := heap_setCell_row (k := i * 8 + k) (v := .int .i64 v) h'
  unfold TabAt
  rw [this, ← tabCells_put M i k v hi hk, ← Array.toList_setIfInBounds, Array.toArray_toList]
theorem TabAt.below {w w' : World} {B : Nat} {M : Tab} (h : TabAt w B M) (hb : Below w.heap.size w w') : TabAt w' B M := by
  unfold TabAt
  rw [hb.block B h.lt]; exact h
theorem TabAt.alloc {w : World} {B : Nat} {M : Tab} (h : TabAt w B M) (o : Obj) : TabAt (w.alloc o) B M := h.below (below_alloc1 w o)
theorem TabAt.drew {w : World} {B : Nat} {M : Tab} (h : TabAt w B M) : TabAt w.drew B M := h
theorem TabAt.congr {w : World} {B : Nat} {M M' : Tab} (h : TabAt w B M) (e : ∀ a b, a < 8 → b < 8 → M a b = M' a b) : TabAt w B M' := by
  have e' : tabCells M = tabCells M' := by
    apply Array.ext
    · simp [tabCells]
    · intro t h1 h2
      have ht : t < 64 := by simpa [tabCells] using h2
      simp [tabCells]
      exact e _ _ (by omega) (by omega)
  unfold TabAt
  rw [← e']
  exact h
theorem TabAt.other {w : World} {B b o : Nat} {v : Value} {M : Tab} (h : TabAt w B M) (hne : b ≠ B) : TabAt (w.setCell ⟨b, o, none⟩ v) B M := by
  unfold TabAt
  rw [heap_setCell_ne hne]; exact h

/-- While the table is laid out: all places before (i, k) have been met. -/
def initAt (i k : Nat) : Tab := fun a b => if (a < i ∨ a = i ∧ b < k) ∧ a ≠ b then 2000000 else 0

theorem init_step (i k : Nat) (h : i ≠ k) : put (initAt i k) i k 2000000 = initAt i (k + 1) := by
  funext a b
  unfold put initAt
  by_cases h1 : a = i ∧ b = k
  · rw [if_pos h1, if_pos]; omega
  · rw [if_neg h1]
    by_cases h2 : (a < i ∨ a = i ∧ b < k) ∧ a ≠ b
    · rw [if_pos h2, if_pos]; omega
    · rw [if_neg h2, if_neg]; omega
theorem init_skip (i : Nat) : initAt i i = initAt i (i + 1) := by
  funext a b
  unfold initAt
  by_cases h2 : (a < i ∨ a = i ∧ b < i) ∧ a ≠ b
  · rw [if_pos h2, if_pos]; omega
  · rw [if_neg h2, if_neg]; omega
theorem init_next (i a b : Nat) (hb : b < 8) : initAt i 8 a b = initAt (i + 1) 0 a b := by
  unfold initAt
  by_cases h2 : (a < i ∨ a = i ∧ b < 8) ∧ a ≠ b
  · rw [if_pos h2, if_pos]; omega
  · rw [if_neg h2, if_neg]; omega
theorem init_end (a b : Nat) (ha : a < 8) : initAt 8 0 a b = tab0 a b := by
  unfold initAt tab0
  by_cases h : a = b
  · rw [if_pos h, if_neg]; omega
  · rw [if_neg h, if_pos]; omega

/-- What stays about a call of 'close' while it runs: the line's box, what lay before, and how many blocks there are. -/
structure CloseCtx (w wr : World) (err : Int) (v rv : Value) : Prop where
  l0 : wr.cell? ⟨w.heap.size, 0, none⟩ = some (.int .i64 err)
  l1 : wr.cell? ⟨w.heap.size, 1, none⟩ = some v
  l2 : wr.cell? ⟨w.heap.size, 2, none⟩ = some rv
  B : Below w.heap.size w wr
  sz : w.heap.size + 2 ≤ wr.heap.size

theorem CloseCtx.below {w wr w' : World} {err : Int} {v rv : Value} (h : CloseCtx w wr err v rv) (hb : Below wr.heap.size wr w') : CloseCtx w w' err v rv :=
  ⟨keep hb h.l0, keep hb h.l1, keep hb h.l2, h.B.trans (hb.mono h.B.size), Nat.le_trans h.sz hb.size⟩
theorem CloseCtx.alloc {w wr : World} {err : Int} {v rv : Value} (h : CloseCtx w wr err v rv) (o : Obj) : CloseCtx w (wr.alloc o) err v rv := h.below (below_alloc1 wr o)
theorem CloseCtx.drew {w wr : World} {err : Int} {v rv : Value} (h : CloseCtx w wr err v rv) : CloseCtx w wr.drew err v rv := ⟨h.l0, h.l1, h.l2, h.B.drew, h.sz⟩
theorem CloseCtx.set {w wr : World} {err : Int} {v rv x : Value} (h : CloseCtx w wr err v rv) (b o : Nat) (hb : w.heap.size < b) : CloseCtx w (wr.setCell ⟨b, o, none⟩ x) err v rv := by
  have hk : ∀ {i : Nat} {y : Value}, wr.cell? ⟨w.heap.size, i, none⟩ = some y → (wr.setCell ⟨b, o, none⟩ x).cell? ⟨w.heap.size, i, none⟩ = some y := by
    intro i y hy
    rw [World.cell?_of_block (w := wr) (heap_setCell_ne (b := b) (g := w.heap.size) (by omega))]; exact hy
  exact ⟨hk h.l0, hk h.l1, hk h.l2, h.B.setCell (by simp; omega) _, by simp; exact h.sz⟩

end Go.Proofs.Ytnombgiacfeloaa
