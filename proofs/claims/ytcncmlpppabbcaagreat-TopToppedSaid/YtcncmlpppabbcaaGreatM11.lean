/- Plain facts: the points of a line as a list, and the table that their readings make. No program is in sight. Plain facts: what stays while 'close' runs behind its loop over the points. No program is in sight. Plain facts: how small the entries of the table can become while 'close' tightens it. No program is in sight. Laws for a table of 8 by 8 numbers that is loaded, stored and handed back whole. No walk is in sight. Plain facts: what Lost, Off, Weights and Cheats return, by the tightened table. No program is in sight. -/
import Derived.Test.YtcncmlpppabbcaaGreatM1
import Derived.Test.YtcncmlpppabbcaaGreatW12
import Derived.Laws.Rows
import Derived.Laws.Tables
import Derived.Laws.ResultCell
import Derived.Deep.WholeRow
namespace Go.Proofs.YtcncmlpppabbcaaGreat
set_option linter.unusedVariables false
set_option linter.unusedSimpArgs false
open Go.RowKit

/-- The table when some points have been met. -/
def tabL (lo hi : Nat → Int) {n : Nat} (pre : List (Pts n)) : Tab := pre.foldl (fun M x => put (put M x.1 7 (hi x.1)) 7 x.1 (-lo x.1)) tab0

theorem tabL_snoc (lo hi : Nat → Int) {n : Nat} (pre : List (Pts n)) (x : Pts n) : tabL lo hi (pre ++ [x]) = put (put (tabL lo hi pre) x.1 7 (hi x.1)) 7 x.1 (-lo x.1) := by simp [tabL]

theorem tabL_pts (lo hi : Nat → Int) (n k : Nat) (h : k ≤ n) : tabL lo hi (ptsTo n k h) = tabR lo hi k := by
  induction k with
  | zero => rfl
  | succ k ih => rw [ptsTo, tabL_snoc, ih]; rfl

theorem lo_bd {err : Int} {ss : List Stp} {rs : List Int} (hL : LineOk err ss) (hR : ReadOk ss rs) (i : Nat) (hi : i < rs.length) : 0 ≤ loAt err ss rs i ∧ loAt err ss rs i ≤ 1000000 := by
  have h1 := wrong_bd hL i
  have h2 := hR.rd rs[i] (List.getElem_mem _)
  unfold loAt rdLo
  rw [List.getElem?_eq_getElem hi]
  simp only [Option.getD_some]
  split <;> omega
theorem hi_bd {err : Int} {ss : List Stp} {rs : List Int} (hL : LineOk err ss) (hR : ReadOk ss rs) (i : Nat) (hi : i < rs.length) : 0 ≤ hiAt err ss rs i ∧ hiAt err ss rs i ≤ 1000000 := by
  have h1 := wrong_bd hL i
  have h2 := hR.rd rs[i] (List.getElem_mem _)
  unfold hiAt rdHi
  rw [List.getElem?_eq_getElem hi]
  simp only [Option.getD_some]
  split <;> omega

end Go.Proofs.YtcncmlpppabbcaaGreat

namespace Go.Proofs.YtcncmlpppabbcaaGreat
set_option linter.unusedVariables false
set_option linter.unusedSimpArgs false
open Go.RowKit

structure CloseD (w wr : World) (D : Nat) (err : Int) (v rv : Value) : Prop where
  c : CloseCtx w wr err v rv
  d : wr.heap[D]? = some (.deferred (some []))
  lt : w.heap.size + 1 < D

theorem CloseD.dlt {w wr : World} {D : Nat} {err : Int} {v rv : Value} (h : CloseD w wr D err v rv) : D < wr.heap.size := (Array.getElem?_eq_some_iff.1 h.d).1
theorem CloseD.below {w wr w' : World} {D : Nat} {err : Int} {v rv : Value} (h : CloseD w wr D err v rv) (hb : Below wr.heap.size wr w') : CloseD w w' D err v rv :=
  ⟨h.c.below hb, (hb.block D h.dlt).trans h.d, h.lt⟩
theorem CloseD.alloc {w wr : World} {D : Nat} {err : Int} {v rv : Value} (h : CloseD w wr D err v rv) (o : Obj) : CloseD w (wr.alloc o) D err v rv := h.below (below_alloc1 wr o)
theorem CloseD.drew {w wr : World} {D : Nat} {err : Int} {v rv : Value} (h : CloseD w wr D err v rv) : CloseD w wr.drew D err v rv := ⟨h.c.drew, h.d, h.lt⟩
theorem CloseD.tab {w wr : World} {D : Nat} {err : Int} {v rv x : Value} (h : CloseD w wr D err v rv) (o : Nat) : CloseD w (wr.setCell ⟨w.heap.size + 1, o, none⟩ x) D err v rv :=
  ⟨h.c.set _ _ (by omega), (heap_setCell_ne (by have := h.lt; omega)).trans h.d, h.lt⟩
theorem CloseD.own {w wr : World} {D b : Nat} {err : Int} {v rv x : Value} (h : CloseD w wr D err v rv) (o : Nat) (hb : D < b) : CloseD w (wr.setCell ⟨b, o, none⟩ x) D err v rv :=
  ⟨h.c.set _ _ (by have := h.lt; omega), (heap_setCell_ne (by omega)).trans h.d, h.lt⟩

end Go.Proofs.YtcncmlpppabbcaaGreat

namespace Go.Proofs.YtcncmlpppabbcaaGreat
set_option linter.unusedVariables false
set_option linter.unusedSimpArgs false
open Go.RowKit

/-- The table's bounds within the tightening over j, ahead of row i's place k. -/
structure StB (N : Int) (j i k : Nat) (M : Tab) : Prop where
  up : ∀ a b, M a b ≤ 2000000
  lo : ∀ a b, -(6 * N) ≤ M a b
  col : ∀ a, a ≠ j → -(3 * N) ≤ M a j
  col1 : ∀ a, a ≠ j → (i < a ∨ a = i ∧ k ≤ j) → -N ≤ M a j
  row : ∀ b, -(3 * N) ≤ M j b
  row1 : ∀ b, (i < j ∨ i = j ∧ k ≤ b) → -N ≤ M j b
  jj : -(2 * N) ≤ M j j

theorem StB.start {N : Int} {M : Tab} (hN : 0 ≤ N) (j : Nat) (h : ∀ a b, -N ≤ M a b ∧ M a b ≤ 2000000) : StB N j 0 0 M :=
  ⟨fun a b => (h a b).2, fun a b => by have := h a b; omega, fun a _ => by have := h a j; omega, fun a _ _ => (h a j).1, fun b => by have := h j b; omega, fun b _ => (h j b).1, by have := h j j; omega⟩

theorem StB.next {N : Int} {j i : Nat} {M : Tab} (h : StB N j i 8 M) : StB N j (i + 1) 0 M :=
  ⟨h.up, h.lo, h.col, fun a hne ha => h.col1 a hne (by omega), h.row, fun b hb => h.row1 b (by omega), h.jj⟩
theorem StB.skip {N : Int} {j i : Nat} {M : Tab} (h : StB N j i 0 M) : StB N j (i + 1) 0 M :=
  ⟨h.up, h.lo, h.col, fun a hne ha => h.col1 a hne (by omega), h.row, fun b hb => h.row1 b (by omega), h.jj⟩

/-- What one tightening adds, at most. -/
theorem StB.sum {N : Int} {j i k : Nat} {M : Tab} (hN : 0 ≤ N) (h : StB N j i k M) : -(6 * N) ≤ M i j + M j k ∧ M i j + M j k ≤ 4000000 := by
  have h1 := h.up i j
  have h2 := h.up j k
  have h3 := h.row k
  by_cases hi : i = j
  · subst hi
    have := h.jj
    omega
  · have := h.col i hi
    omega

theorem StB.upd {N : Int} {j i k : Nat} {M : Tab} (hN : 0 ≤ N) (h : StB N j i k M) : StB N j i (k + 1) (upd M j i k) := by
  have hs := h.sum hN
  have hv : -(6 * N) ≤ min (M i k) (M i j + M j k) := by have := h.lo i k; omega
  have hu : min (M i k) (M i j + M j k) ≤ 2000000 := by have := h.up i k; omega
  refine ⟨?_, ?_, ?_, ?_, ?_, ?_, ?_⟩
  · intro a b
    unfold YtcncmlpppabbcaaGreat.upd put
    split
    · exact hu
    · exact h.up a b
  · intro a b
    unfold YtcncmlpppabbcaaGreat.upd put
    split
    · exact hv
    · exact h.lo a b
  · intro a ha
    unfold YtcncmlpppabbcaaGreat.upd put
    split
    · rename_i e
      obtain ⟨rfl, rfl⟩ := e
      have h1 := h.col1 a ha (.inr ⟨rfl, Nat.le_refl _⟩)
      have h2 := h.jj
      omega
    · exact h.col a ha
  · intro a ha hp
    unfold YtcncmlpppabbcaaGreat.upd put
    split
    · rename_i e
      omega
    · exact h.col1 a ha (by omega)
  · intro b
    unfold YtcncmlpppabbcaaGreat.upd put
    split
    · rename_i e
      obtain ⟨rfl, rfl⟩ := e
      have h1 := h.row1 b (.inr ⟨rfl, Nat.le_refl _⟩)
      have h2 := h.jj
      have h3 := h.row b
      omega
    · exact h.row b
  · intro b hp
    unfold YtcncmlpppabbcaaGreat.upd put
    split
    · rename_i e
      omega
    · exact h.row1 b (by omega)
  · unfold YtcncmlpppabbcaaGreat.upd put
    split
    · rename_i e
      obtain ⟨rfl, rfl⟩ := e
      have h1 := h.row1 j (.inr ⟨rfl, Nat.le_refl _⟩)
      omega
    · exact h.jj

theorem StB.row_to {N : Int} {j i : Nat} {M : Tab} (hN : 0 ≤ N) (h : StB N j i 0 M) (k : Nat) : StB N j i k (rowTo M j i k) := by
  induction k with
  | zero => exact h
  | succ k ih => exact ih.upd hN

theorem StB.col_to {N : Int} {j : Nat} {M : Tab} (hN : 0 ≤ N) (live : Nat → Bool) (h : StB N j 0 0 M) (i : Nat) : StB N j i 0 (colTo live M j i) := by
  induction i with
  | zero => exact h
  | succ i ih =>
    unfold colTo
    split
    · exact (ih.row_to hN 8).next
    · exact ih.skip

theorem fw_bd (live : Nat → Bool) (M : Tab) (h : ∀ a b, -2000000 ≤ M a b ∧ M a b ≤ 2000000) (j : Nat) : ∀ a b, -(6 ^ j * 2000000) ≤ fwTo live M j a b ∧ fwTo live M j a b ≤ 2000000 := by
  induction j with
  | zero => intro a b; have := h a b; simp [fwTo]; omega
  | succ j ih =>
    intro a b
    have h6 : (0 : Int) ≤ 6 ^ j * 2000000 := Int.mul_nonneg (Int.pow_nonneg (by decide)) (by decide)
    have hc := (StB.start h6 j ih).col_to h6 live 8
    have e : (6 : Int) ^ (j + 1) * 2000000 = 6 * (6 ^ j * 2000000) := by rw [Int.pow_succ, Int.mul_comm (6 ^ j) 6, Int.mul_assoc]
    rw [e]
    exact ⟨hc.lo a b, hc.up a b⟩

theorem pow6 (j : Nat) (h : j < 8) : (0 : Int) ≤ 6 ^ j * 2000000 ∧ (6 : Int) ^ j * 2000000 ≤ 559872000000 := by
  have : j = 0 ∨ j = 1 ∨ j = 2 ∨ j = 3 ∨ j = 4 ∨ j = 5 ∨ j = 6 ∨ j = 7 := by omega
  rcases this with rfl | rfl | rfl | rfl | rfl | rfl | rfl | rfl <;> decide

/-- What the walk wants of a sum: it does not wrap. -/
theorem sum_bd (live : Nat → Bool) (M : Tab) (h : ∀ a b, -2000000 ≤ M a b ∧ M a b ≤ 2000000) (j i k : Nat) (hj : j < 8) (N : Tab) (hN : N = rowTo (colTo live (fwTo live M j) j i) j i k) :
    -4000000000000 ≤ N i j + N j k ∧ N i j + N j k ≤ 4000000 := by
  have hp := pow6 j hj
  have hs := (((StB.start hp.1 j (fw_bd live M h j)).col_to hp.1 live i).row_to hp.1 k).sum hp.1
  subst hN
  omega

theorem tabR_bd (lo hi : Nat → Int) (n : Nat) (h : ∀ i, i < n → 0 ≤ lo i ∧ lo i ≤ 1000000 ∧ 0 ≤ hi i ∧ hi i ≤ 1000000) : ∀ a b, -2000000 ≤ tabR lo hi n a b ∧ tabR lo hi n a b ≤ 2000000 := by
  induction n with
  | zero => intro a b; unfold tabR tab0; split <;> omega
  | succ n ih =>
    intro a b
    have h1 := h n (by omega)
    have h2 := ih (fun i hi => h i (by omega)) a b
    unfold tabR put
    repeat (first | split | omega)

theorem tabS_bd (M : Tab) (lo hi : Nat → Int) (n : Nat) (hM : ∀ a b, -2000000 ≤ M a b ∧ M a b ≤ 2000000) (h : ∀ i, i < n → 0 ≤ lo i ∧ lo i ≤ 1000000 ∧ 0 ≤ hi i ∧ hi i ≤ 1000000) : ∀ a b, -2000000 ≤ tabS M lo hi n a b ∧ tabS M lo hi n a b ≤ 2000000 := by
  induction n with
  | zero => exact hM
  | succ n ih =>
    intro a b
    have h1 := h n (by omega)
    have h2 := ih (fun i hi => h i (by omega)) a b
    unfold tabS put
    repeat (first | split | omega)

/-- What a step loses, by its index. -/
def slo (ss : List Stp) (i : Nat) : Int := (ss[i]?.map (·.lo)).getD 0
def shi (ss : List Stp) (i : Nat) : Int := (ss[i]?.map (·.hi)).getD 0

theorem s_bd {err : Int} {ss : List Stp} (hL : LineOk err ss) (i : Nat) (hi : i < ss.length) : 0 ≤ slo ss i ∧ slo ss i ≤ shi ss i ∧ shi ss i ≤ 1000000 := by
  have h := hL.stp ss[i] (List.getElem_mem _)
  simp only [slo, shi, List.getElem?_eq_getElem hi, Option.map_some, Option.getD_some]
  omega

/-- The table that a line and readings make, ahead of the tightening. -/
def tabOf (err : Int) (ss : List Stp) (rs : List Int) : Tab := tabS (tabR (loAt err ss rs) (hiAt err ss rs) rs.length) (slo ss) (shi ss) ss.length

theorem tabOf_bd {err : Int} {ss : List Stp} {rs : List Int} (hL : LineOk err ss) (hR : ReadOk ss rs) : ∀ a b, -2000000 ≤ tabOf err ss rs a b ∧ tabOf err ss rs a b ≤ 2000000 :=
  tabS_bd _ _ _ _ (tabR_bd _ _ _ fun i hi => by have := lo_bd hL hR i hi; have := hi_bd hL hR i hi; omega) fun i hi => by have := s_bd hL i hi; omega

/-- Which rows are tightened. -/
def liveOf (ss : List Stp) (i : Nat) : Bool := decide (i ≤ ss.length) || decide (7 ≤ i)

/-- The table that 'close' hands back. -/
def closed (err : Int) (ss : List Stp) (rs : List Int) : Tab := fwTo (liveOf ss) (tabOf err ss rs) 8

end Go.Proofs.YtcncmlpppabbcaaGreat

namespace Go.Proofs.YtcncmlpppabbcaaGreat
set_option linter.unusedVariables false
set_option linter.unusedSimpArgs false
open Go.RowKit

/-- No entry of the diagonal is less than 0. -/
def sound (M : Tab) : Bool := (List.range 8).all fun i => decide (0 ≤ M i i)

theorem sound_iff {M : Tab} : sound M = true ↔ ∀ i, i < 8 → 0 ≤ M i i := by simp [sound]
theorem sound_true {M : Tab} (h : ∀ i, i < 8 → 0 ≤ M i i) : sound M = true := sound_iff.2 h
theorem sound_false {M : Tab} {i : Nat} (hi : i < 8) (h : M i i < 0) : sound M = false := by
  cases hs : sound M with
  | false => rfl
  | true => have := sound_iff.1 hs i hi; omega

theorem size116 (M : Tab) : (Tryz.prog.info? 104).map (·.size) = some (tabCells M).size := by
  rw [tabCells_size]; kernel_rfl

theorem run_load_tab (w : World) (B : Nat) (M : Tab) (h : TabAt w B M) : (loadVar 104 ⟨B, 0, none⟩).run Tryz.prog w = .ok (.agg (tabCells M)) w :=
  run_loadVar_row w B 104 104 (tabCells M) (0, 0) (.array 8 102) h (by kernel_rfl) rfl (size116 M)

theorem wpList_load_tab {ops : Array Oper} {rest : List Oper} {o : Oper} {a : Act} {w : World} {Q : Exit → Act → World → Prop} (hgd : o.guard = none) (x : Operand) (ho : o.op = .load 104 x)
    (B : Nat) (hx : a.eval x = .pointer (some ⟨B, 0, none⟩)) (M : Tab) (hT : TabAt w B M) (h : wpList Tryz.prog ops Q rest (a.put o.dst (.agg (tabCells M))) w) : wpList Tryz.prog ops Q (o :: rest) a w :=
  wpList_load_row hgd 104 x ho B hx 104 (tabCells M) (0, 0) (.array 8 102) hT (by kernel_rfl) rfl (size116 M) h

theorem setRow_tab {w : World} {B : Nat} {M : Tab} (hT : TabAt w B M) : w.setRow B (tabCells M) = w := by
  have h2 : (w.setRow B (tabCells M)).heap = w.heap := by
    apply Array.ext_getElem?
    intro k
    unfold World.setRow
    rw [Array.getElem?_modify]
    by_cases hk : B = k
    · subst hk
      rw [if_pos rfl, show w.heap[B]? = _ from hT]
      rfl
    · rw [if_neg hk]
  have h3 : w.setRow B (tabCells M) = { w with heap := (w.setRow B (tabCells M)).heap } := rfl
  rw [h3, h2]

theorem wpList_store_tab {ops : Array Oper} {rest : List Oper} {o : Oper} {a : Act} {w : World} {Q : Exit → Act → World → Prop} (hgd : o.guard = none) (x y : Operand) (ho : o.op = .store 104 x y)
    (B : Nat) (hx : a.eval x = .pointer (some ⟨B, 0, none⟩)) (M : Tab) (hy : a.eval y = .agg (tabCells M)) (hT : TabAt w B M) (h : wpList Tryz.prog ops Q rest (a.put o.dst undef) w) : wpList Tryz.prog ops Q (o :: rest) a w :=
  wpList_store_row hgd 104 x y ho B (tabCells M) hx hy 104 (tabCells M) hT (size116 M) rfl
    (Array.all_eq_true_iff_forall_mem.2 fun v hv => by
      obtain ⟨i, hi, rfl⟩ := Array.getElem_of_mem hv
      simp [tabCells, Value.oneCell'])
    (by rw [setRow_tab hT]; exact h)

theorem tabCells_one (M : Tab) : (tabCells M).all (·.oneCell') = true :=
  Array.all_eq_true_iff_forall_mem.2 fun v hv => by
    obtain ⟨i, hi, rfl⟩ := Array.getElem_of_mem hv
    simp [tabCells, Value.oneCell']

/-- A table is laid into a block that has just been made. -/
theorem wpList_store_fresh {ops : Array Oper} {rest : List Oper} {o : Oper} {a : Act} {w0 : World} {z : Array Value} {Q : Exit → Act → World → Prop} (hgd : o.guard = none) (x y : Operand) (ho : o.op = .store 104 x y)
    (B : Nat) (hB : w0.heap.size = B) (hz : z.size = 64) (hx : a.eval x = .pointer (some ⟨B, 0, none⟩)) (M : Tab) (hy : a.eval y = .agg (tabCells M)) (h : wpList Tryz.prog ops Q rest (a.put o.dst undef) (w0.alloc (.cells (tabCells M) 104))) :
    wpList Tryz.prog ops Q (o :: rest) a (w0.alloc (.cells z 104)) := by
  subst hB
  refine wpList_store_row hgd 104 x y ho w0.heap.size (tabCells M) hx hy 104 z (World.alloc_heap_new w0 _) (size116 M) (by rw [hz, tabCells_size]) (tabCells_one M) ?_
  rw [World.setRow_alloc_new]
  exact h

theorem results_tab {fn : Func} {p u : Tmp} (h : fn.results = #[.cell p 104, .tmp u]) (tmps : Array Value) (w : World) (B : Nat) (M : Tab) (v : Value) (hp : tmps.getD p undef = .pointer (some ⟨B, 0, none⟩)) (hu : tmps.getD u undef = v) (hT : TabAt w B M) :
    (results fn tmps).run Tryz.prog w = .ok (.tuple #[.agg (tabCells M), v]) w := by
  rw [results_cell_tmp h, hp, hu]
  simp [asAddr, run_load_tab w B M hT]

end Go.Proofs.YtcncmlpppabbcaaGreat

namespace Go.Proofs.YtcncmlpppabbcaaGreat
set_option linter.unusedVariables false
set_option linter.unusedSimpArgs false
open Go.RowKit

theorem closed_bd {err : Int} {ss : List Stp} {rs : List Int} (hL : LineOk err ss) (hR : ReadOk ss rs) (a b : Nat) : -4000000000000 ≤ closed err ss rs a b ∧ closed err ss rs a b ≤ 2000000 := by
  have := fw_bd (liveOf ss) (tabOf err ss rs) (tabOf_bd hL hR) 8 a b
  have e : (6 : Int) ^ 8 * 2000000 = 3359232000000 := by decide
  rw [e] at this
  unfold closed
  omega

/-- The error of Lost. -/
def lostErr (err : Int) (ss : List Stp) (rs : List Int) (x y : Int) : Int :=
  if askErr err ss rs ≠ 0 then askErr err ss rs else if anyOut 0 ss.length [x, y] = true ∨ y ≤ x then 4 else if sound (closed err ss rs) = true then 0 else 9

/-- What Lost returns beside it. -/
def lostAt (err : Int) (ss : List Stp) (rs : List Int) (x y : Int) : Int × Int :=
  if lostErr err ss rs x y = 0 then (-closed err ss rs y.toNat x.toNat, closed err ss rs x.toNat y.toNat) else (0, 0)

/-- Off: its error, and what it returns beside it. -/
def offErr (err : Int) (ss : List Stp) (rs : List Int) (p : Int) : Int :=
  if askErr err ss rs ≠ 0 then askErr err ss rs else if anyOut 0 ss.length [p] = true ∨ rs[p.toNat]? = some (-1) then 4 else if sound (closed err ss (rs.set p.toNat (-1))) = true then 0 else 9
def offAt (err : Int) (ss : List Stp) (rs : List Int) (p : Int) : Int × Int :=
  if offErr err ss rs p = 0 then ((rs[p.toNat]?.getD 0) - closed err ss (rs.set p.toNat (-1)) p.toNat 7, (rs[p.toNat]?.getD 0) + closed err ss (rs.set p.toNat (-1)) 7 p.toNat) else (0, 0)

/-- Weights. -/
def wErr (err : Int) (ss : List Stp) (rs : List Int) : Int := if askErr err ss rs ≠ 0 then askErr err ss rs else if sound (closed err ss rs) = true then 0 else 9
def wList (err : Int) (ss : List Stp) (rs : List Int) (k : Nat) : List (Int × Int) := (List.range k).map fun i => (-closed err ss rs 7 i, closed err ss rs i 7)
def wAt (err : Int) (ss : List Stp) (rs : List Int) : List (Int × Int) := if wErr err ss rs = 0 then wList err ss rs rs.length else []

/-- Cheats. -/
def cheatsTo (err : Int) (ss : List Stp) (rs : List Int) (k : Nat) : List Int := ((List.range k).filter fun i : Nat => sound (closed err ss (rs.set i (-1)))).map fun i : Nat => (i : Int)
def cErr (err : Int) (ss : List Stp) (rs : List Int) : Int := if askErr err ss rs ≠ 0 then askErr err ss rs else if sound (closed err ss rs) = true then 4 else if cheatsTo err ss rs rs.length = [] then 9 else 0
def cAt (err : Int) (ss : List Stp) (rs : List Int) : List Int := if cErr err ss rs = 0 then cheatsTo err ss rs rs.length else []

end Go.Proofs.YtcncmlpppabbcaaGreat
