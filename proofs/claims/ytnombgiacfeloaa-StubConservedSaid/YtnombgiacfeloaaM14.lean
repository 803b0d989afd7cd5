/- Laws for a table of 8 by 8 numbers that is loaded, stored and handed back whole. No walk is in sight. -/
import Derived.Test.YtnombgiacfeloaaM12
import Derived.Laws.Rows
import Derived.Laws.Tables
import Derived.Laws.ResultCell
import Derived.Deep.WholeRow
namespace Go.Proofs.Ytnombgiacfeloaa
set_option linter.unusedVariables false
set_option linter.unusedSimpArgs false
open Go.RowKit

/-- No entry of the diagonal is less than 0. -/
def sound (M : Tab) : Bool := (List.range 8).all fun i => decide (0 ≤ M i i)

theorem sound_iff {M : Tab} : sound M = true ↔ ∀ i, i < 8 → 0 ≤ M i i := by simp [sound]
theorem sound_true {M : Tab} (h : ∀ i, i < 8 → 0 ≤ M i i) : sound M = true := sound_iff.2 h
theorem sound_false {M : Tab} {i : Nat} (hi : i < 8) (h : M i i < 0) : sound M = false := by
  cases hs : sound M with
  | false => rfl
  | true => have := sound_iff.1 hs i hi; omega

theorem size116 (M : Tab) : (Try.prog.info? 116).map (·.size) = some (tabCells M).size := by
  rw [tabCells_size]; kernel_rfl

theorem run_load_tab (w : World) (B : Nat) (M : Tab) (h : TabAt w B M) : (loadVar 116 ⟨B, 0, none⟩).run Try.prog w = .ok (.agg (tabCells M)) w :=
  run_loadVar_row w B 116 116 (tabCells M) (0, 0) (.array 8 114) h (by kernel_rfl) rfl (size116 M)

theorem wpList_load_tab {ops : Array Oper} {rest : List Oper} {o : Oper} {a : Act} {w : World} {Q : Exit → Act → World → Prop} (hgd : o.guard = none) (x : Operand) (ho : o.op = .load 116 x)
    (B : Nat) (hx : a.eval x = .pointer (some ⟨B, 0, none⟩)) (M : Tab) (hT : TabAt w B M) (h : wpList Try.prog ops Q rest (a.put o.dst (.agg (tabCells M))) w) : wpList Try.prog ops Q (o :: rest) a w :=
  wpList_load_row hgd 116 x ho B hx 116 (tabCells M) (0, 0) (.array 8 114) hT (by kernel_rfl) rfl (size116 M) h

theorem setRow_tab {w : World} {B : Nat} {M : Tab} (hT : TabAt w B M) : w.setRow B (tabCells M) = w := by
  have h2 : (w.setRow B (tabCells M)).heap = w.heap := by
    apply Array.ext_getElem?
    intro k
    unfold World.setRow
    rw [Array.getElem?_modify]
    by_cases hk : B = k
    · subst hk
      rw [if_pos rfl, show w.heap[B]? = _ from hT]
      rfl
    · rw [if_neg hk]
  have h3 : w.setRow B (tabCells M) = { w with heap := (w.setRow B (tabCells M)).heap } := rfl
  rw [h3, h2]

theorem wpList_store_tab {ops : Array Oper} {rest : List Oper} {o : Oper} {a : Act} {w : World} {Q : Exit → Act → World → Prop} (hgd : o.guard = none) (x y : Operand) (ho : o.op = .store 116 x y)
    (B : Nat) (hx : a.eval x = .pointer (some ⟨B, 0, none⟩)) (M : Tab) (hy : a.eval y = .agg (tabCells M)) (hT : TabAt w B M) (h : wpList Try.prog ops Q rest (a.put o.dst undef) w) : wpList Try.prog ops Q (o :: rest) a w :=
  wpList_store_row hgd 116 x y ho B (tabCells M) hx hy 116 (tabCells M) hT (size116 M) rfl
    (Array.all_eq_true_iff_forall_mem.2 fun v hv => by
      obtain ⟨i, hi, rfl⟩ := Array.getElem_of_mem hv
      simp [tabCells, Value.oneCell'])
    (by rw [setRow_tab hT]; exact h)

theorem tabCells_one (M : Tab) : (tabCells M).all (·.oneCell') = true :=
  Array.all_eq_true_iff_forall_mem.2 fun v hv => by
    obtain ⟨i, hi, rfl⟩ := Array.getElem_of_mem hv
    simp [tabCells, Value.oneCell']

/-- A table is laid into a block that has just been made. -/
theorem wpList_store_fresh {ops : Array Oper} {rest : List Oper} {o : Oper} {a : Act} {w0 : World} {z : Array Value} {Q : Exit → Act → World → Prop} (hgd : o.guard = none) (x y : Operand) (ho : o.op = .store 116 x y)
    (B : Nat) (hB : w0.heap.size = B) (hz : z.size = 64) (hx : a.eval x = .pointer (some ⟨B, 0, none⟩)) (M : Tab) (hy : a.eval y = .agg (tabCells M)) (h : wpList Try.prog ops Q rest (a.put o.dst undef) (w0.alloc (.cells (tabCells M) 116))) :
    wpList Try.prog ops Q (o :: rest) a (w0.alloc (.cells z 116)) := by
  subst hB
  refine wpList_store_row hgd 116 x y ho w0.heap.size (tabCells M) hx hy 116 z (World.alloc_heap_new w0 _) (size116 M) (by rw [hz, tabCells_size]) (tabCells_one M) ?_
  rw [World.setRow_alloc_new]
  exact h

theorem results_tab {fn : Func} {p u : Tmp} (h : fn.results = #[.cell p 116, .tmp u]) (tmps : Array Value) (w : World) (B : Nat) (M : Tab) (v : Value) (hp : tmps.getD p undef = .pointer (some ⟨B, 0, none⟩)) (hu : tmps.getD u undef = v) (hT : TabAt w B M) :
    (results fn tmps).run Try.prog w = .ok (.tuple #[.agg (tabCells M), v]) w := by
  rw [results_cell_tmp h, hp, hu]
  simp [asAddr, run_load_tab w B M hT]

end Go.Proofs.Ytnombgiacfeloaa
