/- The walk of mould's open: a mould, and when its rings set at the earliest and at the latest. The walk of mould's open: a mould, and when its rings set at the earliest and at the latest. The walk of mould's open: a mould, and when its rings set at the earliest and at the latest. -/
import Derived.Test.YtcncmlpppabbcaaGreatD19
import Derived.Deep.Cut
import Derived.Deep.RegionHeld3
namespace Go.Proofs.YtcncmlpppabbcaaGreat
set_option linter.unusedVariables false
set_option linter.unusedSimpArgs false
open Go.RowKit
attribute [local go_sem] Oper.semAt_some

def noMo : Mo := ⟨0, 0, 0, 0, 0, 0, 0, 0, 0, 0, 0, 0⟩

/-- A value of 'times' lies in a block. -/
def TmAt (w : World) (B : Nat) (m : Mo) (fv lv : Value) : Prop := w.heap[B]? = some (.cells (tmCells m fv lv) 63 (0, 0))
variable {w w' : World} {B : Nat} {m : Mo} {fv lv : Value}
theorem TmAt.new (w : World) (m : Mo) (fv lv : Value) : TmAt (w.alloc (.cells (tmCells m fv lv) 63)) w.heap.size m fv lv := World.alloc_heap_new w _
theorem TmAt.lt (h : TmAt w B m fv lv) : B < w.heap.size := (Array.getElem?_eq_some_iff.1 h).1
theorem TmAt.cell (h : TmAt w B m fv lv) (i : Nat) : w.cell? ⟨B, i, none⟩ = (tmCells m fv lv)[i]? := cell_of_row w B i _ 63 (0, 0) h
theorem TmAt.mo (h : TmAt w B m fv lv) : MoAt w B m := ⟨h.cell 0, h.cell 1, h.cell 2, h.cell 3, h.cell 4, h.cell 5, h.cell 6, h.cell 7, h.cell 8, h.cell 9, h.cell 10, h.cell 11⟩
theorem TmAt.frozen (h : TmAt w B m fv lv) (o : Nat) : w.frozen? ⟨B, o, none⟩ = false := frozen_of_row h
theorem TmAt.same (h : TmAt w B m fv lv) (e : w'.heap[B]? = w.heap[B]?) : TmAt w' B m fv lv := e.trans h
theorem TmAt.below (h : TmAt w B m fv lv) (hb : Below w.heap.size w w') : TmAt w' B m fv lv := h.same (hb.block B h.lt)
theorem row_set {w : World} {B : Nat} {l : List Value} (h : w.heap[B]? = some (.cells l.toArray 63 (0, 0))) (k : Nat) (v : Value) : (w.setCell ⟨B, k, none⟩ v).heap[B]? = some (.cells (l.set k v).toArray 63 (0, 0)) := heap_setCell_row h
theorem TmAt.store14 {m0 : Mo} {f0 l0 : Value} (h : TmAt w B m0 f0 l0) (m : Mo) (fv lv : Value) : TmAt ((((((((((((((w.setCell ⟨B, 0, none⟩ (.int .i64 m.rings)).setCell ⟨B, 1, none⟩ (.int .i64 m.give)).setCell ⟨B, 2, none⟩ (.int .i64 m.plo)).setCell ⟨B, 3, none⟩ (.int .i64 m.phi)).setCell ⟨B, 4, none⟩ (.int .i64 m.wlo)).setCell ⟨B, 5, none⟩ (.int .i64 m.whi)).setCell ⟨B, 6, none⟩ (.int .i64 m.set)).setCell ⟨B, 7, none⟩ (.int .i64 m.shrink)).setCell ⟨B, 8, none⟩ (.int .i64 m.skin)).setCell ⟨B, 9, none⟩ (.int .i64 m.fill)).setCell ⟨B, 10, none⟩ (.int .i64 m.gap)).setCell ⟨B, 11, none⟩ (.int .i64 m.deep)).setCell ⟨B, 12, none⟩ fv).setCell ⟨B, 13, none⟩ lv) B m fv lv := by
  have h0 : w.heap[B]? = some (.cells [.int .i64 m0.rings, .int .i64 m0.give, .int .i64 m0.plo, .int .i64 m0.phi, .int .i64 m0.wlo, .int .i64 m0.whi, .int .i64 m0.set, .int .i64 m0.shrink, .int .i64 m0.skin, .int .i64 m0.fill, .int .i64 m0.gap, .int .i64 m0.deep, f0, l0].toArray 63 (0, 0)) := h
  have h1 := row_set h0 0 (.int .i64 m.rings)
  have h2 := row_set h1 1 (.int .i64 m.give)
  have h3 := row_set h2 2 (.int .i64 m.plo)
  have h4 := row_set h3 3 (.int .i64 m.phi)
  have h5 := row_set h4 4 (.int .i64 m.wlo)
  have h6 := row_set h5 5 (.int .i64 m.whi)
  have h7 := row_set h6 6 (.int .i64 m.set)
  have h8 := row_set h7 7 (.int .i64 m.shrink)
  have h9 := row_set h8 8 (.int .i64 m.skin)
  have h10 := row_set h9 9 (.int .i64 m.fill)
  have h11 := row_set h10 10 (.int .i64 m.gap)
  have h12 := row_set h11 11 (.int .i64 m.deep)
  have h13 := row_set h12 12 (fv)
  have h14 := row_set h13 13 (lv)
  exact h14
theorem below_store14 {W w : World} {n B : Nat} (h : Below n W w) (hB : n ≤ B) (m : Mo) (fv lv : Value) : Below n W ((((((((((((((w.setCell ⟨B, 0, none⟩ (.int .i64 m.rings)).setCell ⟨B, 1, none⟩ (.int .i64 m.give)).setCell ⟨B, 2, none⟩ (.int .i64 m.plo)).setCell ⟨B, 3, none⟩ (.int .i64 m.phi)).setCell ⟨B, 4, none⟩ (.int .i64 m.wlo)).setCell ⟨B, 5, none⟩ (.int .i64 m.whi)).setCell ⟨B, 6, none⟩ (.int .i64 m.set)).setCell ⟨B, 7, none⟩ (.int .i64 m.shrink)).setCell ⟨B, 8, none⟩ (.int .i64 m.skin)).setCell ⟨B, 9, none⟩ (.int .i64 m.fill)).setCell ⟨B, 10, none⟩ (.int .i64 m.gap)).setCell ⟨B, 11, none⟩ (.int .i64 m.deep)).setCell ⟨B, 12, none⟩ fv).setCell ⟨B, 13, none⟩ lv) := by
  exact ((((((((((((((h.setCell (p := ⟨B, 0, none⟩) hB (.int .i64 m.rings)).setCell (p := ⟨B, 1, none⟩) hB (.int .i64 m.give)).setCell (p := ⟨B, 2, none⟩) hB (.int .i64 m.plo)).setCell (p := ⟨B, 3, none⟩) hB (.int .i64 m.phi)).setCell (p := ⟨B, 4, none⟩) hB (.int .i64 m.wlo)).setCell (p := ⟨B, 5, none⟩) hB (.int .i64 m.whi)).setCell (p := ⟨B, 6, none⟩) hB (.int .i64 m.set)).setCell (p := ⟨B, 7, none⟩) hB (.int .i64 m.shrink)).setCell (p := ⟨B, 8, none⟩) hB (.int .i64 m.skin)).setCell (p := ⟨B, 9, none⟩) hB (.int .i64 m.fill)).setCell (p := ⟨B, 10, none⟩) hB (.int .i64 m.gap)).setCell (p := ⟨B, 11, none⟩) hB (.int .i64 m.deep)).setCell (p := ⟨B, 12, none⟩) hB fv).setCell (p := ⟨B, 13, none⟩) hB lv)
theorem other_store14 {w : World} {B L n : Nat} {g : Nat → Int} (h : InAt w L n g) (hB : B ≠ L) (m : Mo) (fv lv : Value) : InAt ((((((((((((((w.setCell ⟨B, 0, none⟩ (.int .i64 m.rings)).setCell ⟨B, 1, none⟩ (.int .i64 m.give)).setCell ⟨B, 2, none⟩ (.int .i64 m.plo)).setCell ⟨B, 3, none⟩ (.int .i64 m.phi)).setCell ⟨B, 4, none⟩ (.int .i64 m.wlo)).setCell ⟨B, 5, none⟩ (.int .i64 m.whi)).setCell ⟨B, 6, none⟩ (.int .i64 m.set)).setCell ⟨B, 7, none⟩ (.int .i64 m.shrink)).setCell ⟨B, 8, none⟩ (.int .i64 m.skin)).setCell ⟨B, 9, none⟩ (.int .i64 m.fill)).setCell ⟨B, 10, none⟩ (.int .i64 m.gap)).setCell ⟨B, 11, none⟩ (.int .i64 m.deep)).setCell ⟨B, 12, none⟩ fv).setCell ⟨B, 13, none⟩ lv) L n g := by
  exact ((((((((((((((h.other hB).other hB).other hB).other hB).other hB).other hB).other hB).other hB).other hB).other hB).other hB).other hB).other hB).other hB)
theorem cell_store14 {w : World} {B T o : Nat} {v : Value} (h : w.cell? ⟨T, o, none⟩ = some v) (hB : B ≠ T) (m : Mo) (fv lv : Value) : ((((((((((((((w.setCell ⟨B, 0, none⟩ (.int .i64 m.rings)).setCell ⟨B, 1, none⟩ (.int .i64 m.give)).setCell ⟨B, 2, none⟩ (.int .i64 m.plo)).setCell ⟨B, 3, none⟩ (.int .i64 m.phi)).setCell ⟨B, 4, none⟩ (.int .i64 m.wlo)).setCell ⟨B, 5, none⟩ (.int .i64 m.whi)).setCell ⟨B, 6, none⟩ (.int .i64 m.set)).setCell ⟨B, 7, none⟩ (.int .i64 m.shrink)).setCell ⟨B, 8, none⟩ (.int .i64 m.skin)).setCell ⟨B, 9, none⟩ (.int .i64 m.fill)).setCell ⟨B, 10, none⟩ (.int .i64 m.gap)).setCell ⟨B, 11, none⟩ (.int .i64 m.deep)).setCell ⟨B, 12, none⟩ fv).setCell ⟨B, 13, none⟩ lv).cell? ⟨T, o, none⟩ = some v := by
  have e : ∀ (w : World) (k : Nat) (u : Value), (w.setCell ⟨B, k, none⟩ u).cell? ⟨T, o, none⟩ = w.cell? ⟨T, o, none⟩ := fun w k u => World.cell?_of_block (heap_setCell_ne hB)
  rw [e, e, e, e, e, e, e, e, e, e, e, e, e, e]
  exact h

theorem size63 (m : Mo) (fv lv : Value) : (Tryz.prog.info? 63).map (·.size) = some (tmCells m fv lv).size := by
  show _ = some 14
  kernel_rfl
theorem run_load_tm (h : TmAt w B m fv lv) : (loadVar 63 ⟨B, 0, none⟩).run Tryz.prog w = .ok (.agg (tmCells m fv lv)) w :=
  run_loadVar_row w B 63 63 (tmCells m fv lv) (0, 0) _ h Tryz.underlying63 rfl (size63 m fv lv)
theorem results_tm {fn : Func} {p q : Tmp} (h : fn.results = #[.cell p 63, .tmp q]) (tmps : Array Value) (v : Value) (hp : tmps.getD p undef = .pointer (some ⟨B, 0, none⟩)) (hq : tmps.getD q undef = v) (hT : TmAt w B m fv lv) :
    (results fn tmps).run Tryz.prog w = .ok (.tuple #[.agg (tmCells m fv lv), v]) w := by
  have h1 := run_load_tm hT
  have hp2 : tmps[p]?.getD undef = .pointer (some ⟨B, 0, none⟩) := by simpa using hp
  have hq2 : tmps[q]?.getD undef = v := by simpa using hq
  simp only [results, h]
  simp [Sem.run_bind, Result.andThen, hp2, hq2, asAddr, h1]

end Go.Proofs.YtcncmlpppabbcaaGreat

namespace Go.Proofs.YtcncmlpppabbcaaGreat
set_option linter.unusedVariables false
set_option linter.unusedSimpArgs false
open Go.RowKit
attribute [local go_sem] Oper.semAt_some

set_option maxRecDepth 100000 in
set_option maxHeartbeats 1000000 in
theorem open_no (m : Mo) (w : World) (h : chkM m ≠ 0) : Calls Tryz.prog 15 #[.agg m.cells] w fun e w' => e = .returned (.tuple #[.agg (tmCells noMo (.slice none 0 0) (.slice none 0 0)), .int .i64 (chkM m)]) ∧ Below w.heap.size w w' := by
  have HH := Lib.hid h
  have hb0 : (chkM m != 0) = true := by simpa using h
  have ck := checkM_any m
  have HN := Lib.hid (TmAt.new (w.alloc (.cells m.cells 25)) noMo (.slice none 0 0) (.slice none 0 0))
  have HB := Lib.hid (below_alloc2 w (.cells m.cells 25) (.cells (tmCells noMo (.slice none 0 0) (.slice none 0 0)) 63))
  unfold Mo.cells at ck
  have CK := Lib.hid ck
  clear h ck
  unfold Mo.cells
  go_enter Tryz.func15, Tryz.ntmps15
  go_upto_region 2 with (go_at_call 30; refine (CK.out _).mono ?_; rintro e w1 ⟨rfl, hb⟩)
  have hT : TmAt w1 (w.heap.size + 1) noMo (.slice none 0 0) (.slice none 0 0) := by
    have h1 := HN.out
    rw [show (w.alloc (.cells m.cells 25)).heap.size = w.heap.size + 1 by simp] at h1
    exact h1.below hb
  have HB2 : Hid (Below w.heap.size w w1) := Lib.hid (belT HB.out hb)
  have HT := Lib.hid hT
  have t0 : w1.cell? ⟨w.heap.size + 1, 0, none⟩ = some (.int .i64 0) := hT.cell 0
  have t1 : w1.cell? ⟨w.heap.size + 1, 1, none⟩ = some (.int .i64 0) := hT.cell 1
  have t2 : w1.cell? ⟨w.heap.size + 1, 2, none⟩ = some (.int .i64 0) := hT.cell 2
  have t3 : w1.cell? ⟨w.heap.size + 1, 3, none⟩ = some (.int .i64 0) := hT.cell 3
  have t4 : w1.cell? ⟨w.heap.size + 1, 4, none⟩ = some (.int .i64 0) := hT.cell 4
  have t5 : w1.cell? ⟨w.heap.size + 1, 5, none⟩ = some (.int .i64 0) := hT.cell 5
  have t6 : w1.cell? ⟨w.heap.size + 1, 6, none⟩ = some (.int .i64 0) := hT.cell 6
  have t7 : w1.cell? ⟨w.heap.size + 1, 7, none⟩ = some (.int .i64 0) := hT.cell 7
  have t8 : w1.cell? ⟨w.heap.size + 1, 8, none⟩ = some (.int .i64 0) := hT.cell 8
  have t9 : w1.cell? ⟨w.heap.size + 1, 9, none⟩ = some (.int .i64 0) := hT.cell 9
  have t10 : w1.cell? ⟨w.heap.size + 1, 10, none⟩ = some (.int .i64 0) := hT.cell 10
  have t11 : w1.cell? ⟨w.heap.size + 1, 11, none⟩ = some (.int .i64 0) := hT.cell 11
  have t12 : w1.cell? ⟨w.heap.size + 1, 12, none⟩ = some (.slice none 0 0) := hT.cell 12
  have t13 : w1.cell? ⟨w.heap.size + 1, 13, none⟩ = some (.slice none 0 0) := hT.cell 13
  have fz := hT.frozen
  clear hT HN HB hb
  go_wp2_with fail
  refine bodyPost_ret (results_tm rfl _ (.int .i64 (chkM m)) rfl rfl (HT.out.store14 noMo _ _)) rfl ⟨rfl, below_store14 HB2.out (Nat.le_succ _) noMo _ _⟩


end Go.Proofs.YtcncmlpppabbcaaGreat

namespace Go.Proofs.YtcncmlpppabbcaaGreat
set_option linter.unusedVariables false
set_option linter.unusedSimpArgs false
open Go.RowKit
attribute [local go_sem] Oper.semAt_some

set_option maxRecDepth 100000 in
set_option maxHeartbeats 4000000 in
theorem open_ok (m : Mo) (w : World) (h : chkM m = 0) : Calls Tryz.prog 15 #[.agg m.cells] w fun e w' => ∃ L1 L2, e = .returned (.tuple #[.agg (tmCells m (.slice (some ⟨L1, 0, none⟩) m.rings.toNat m.rings.toNat) (.slice (some ⟨L2, 0, none⟩) m.rings.toNat m.rings.toNat)), .int .i64 0]) ∧
    InAt w' L1 m.rings.toNat (whenF m m.plo m.wlo) ∧ InAt w' L2 m.rings.toNat (whenF m m.phi m.whi) ∧ Below w.heap.size w w' := by
  have hm := chkM_ok h
  have ck := checkM_any m
  rw [h] at ck
  have HN := Lib.hid (TmAt.new (w.alloc (.cells m.cells 25)) noMo (.slice none 0 0) (.slice none 0 0))
  have HB := Lib.hid (below_alloc2 w (.cells m.cells 25) (.cells (tmCells noMo (.slice none 0 0) (.slice none 0 0)) 63))
  have HA := Lib.hid ((MoAt.new w m 25).below (below_alloc1 _ (.cells (tmCells noMo (.slice none 0 0) (.slice none 0 0)) 63)))
  have wc := when_cold m hm
  have wh := when_hot m hm
  generalize m.rings.toNat = rn at wc wh ⊢
  unfold Mo.cells at ck wc wh
  have CK := Lib.hid ck
  have WC := Lib.hid wc
  have WH := Lib.hid wh
  clear h ck hm wc wh
  unfold Mo.cells
  go_enter Tryz.func15, Tryz.ntmps15
  go_upto_region 2 with (go_at_call 30; refine (CK.out _).mono ?_; rintro e w1 ⟨rfl, hb⟩)
  have HT : Hid (TmAt w1 (w.heap.size + 1) noMo (.slice none 0 0) (.slice none 0 0)) := Lib.hid (by
    have h1 := HN.out
    rw [show (w.alloc (.cells m.cells 25)).heap.size = w.heap.size + 1 by simp] at h1
    exact h1.below hb)
  have HB2 : Hid (Below w.heap.size w w1) := Lib.hid (belT HB.out hb)
  obtain ⟨c0, c1, c2, c3, c4, c5, c6, c7, c8, c9, c10, c11⟩ := HA.out.below hb
  clear HN HB HA hb CK
  go_upto_region 5 with fail
  clear c0 c1 c2 c3 c4 c5 c6 c7 c8 c9 c10 c11
  have CC := MoAt.new w1 m 61
  have HT2 : Hid (TmAt (w1.alloc (.cells m.cells 61)) (w.heap.size + 1) noMo (.slice none 0 0) (.slice none 0 0)) := Lib.hid (HT.out.below (below_alloc1 _ _))
  have HB3 : Hid (Below w.heap.size w (w1.alloc (.cells m.cells 61))) := Lib.hid (belT HB2.out (below_alloc1 _ _))
  have hT0 : w.heap.size + 2 ≤ w1.heap.size := HT.out.lt
  have HT0 := Lib.hid hT0
  change Code.wp _ _ _ _ (w1.alloc (.cells m.cells 61))
  generalize (w1.alloc (.cells m.cells 61)) = W2 at *
  generalize w1.heap.size = T at *
  obtain ⟨c0, c1, c2, c3, c4, c5, c6, c7, c8, c9, c10, c11⟩ := CC
  have hne : w.heap.size + 1 ≠ T := by omega
  clear HT HB2 hT0
  go_region_held3 (fun w' => w'.cell? ⟨T, 0, none⟩ = some (.int .i64 m.rings) ∧ w'.cell? ⟨T, 1, none⟩ = some (.int .i64 m.give) ∧ w'.cell? ⟨T, 2, none⟩ = some (.int .i64 m.plo) ∧ w'.cell? ⟨T, 3, none⟩ = some (.int .i64 m.phi) ∧ w'.cell? ⟨T, 4, none⟩ = some (.int .i64 m.wlo) ∧ w'.cell? ⟨T, 5, none⟩ = some (.int .i64 m.whi) ∧ w'.cell? ⟨T, 6, none⟩ = some (.int .i64 m.set) ∧ w'.cell? ⟨T, 7, none⟩ = some (.int .i64 m.shrink) ∧ w'.cell? ⟨T, 8, none⟩ = some (.int .i64 m.skin) ∧ w'.cell? ⟨T, 9, none⟩ = some (.int .i64 m.fill) ∧ w'.cell? ⟨T, 10, none⟩ = some (.int .i64 m.gap) ∧ w'.cell? ⟨T, 11, none⟩ = some (.int .i64 m.deep))
    (first
      | with_reducible exact ⟨keep (Below.drew (Below.refl _ _)) c0, keep (Below.drew (Below.refl _ _)) c1, keep (Below.drew (Below.refl _ _)) c2, keep (Below.drew (Below.refl _ _)) c3, keep (Below.drew (Below.refl _ _)) c4, keep (Below.drew (Below.refl _ _)) c5, keep (Below.drew (Below.refl _ _)) c6, keep (Below.drew (Below.refl _ _)) c7, keep (Below.drew (Below.refl _ _)) c8, keep (Below.drew (Below.refl _ _)) c9, keep (Below.drew (Below.refl _ _)) c10, keep (Below.drew (Below.refl _ _)) c11⟩
      | with_reducible exact ⟨keep hb5 c0, keep hb5 c1, keep hb5 c2, keep hb5 c3, keep hb5 c4, keep hb5 c5, keep hb5 c6, keep hb5 c7, keep hb5 c8, keep hb5 c9, keep hb5 c10, keep hb5 c11⟩
      | with_reducible exact ⟨keep hb6 c0, keep hb6 c1, keep hb6 c2, keep hb6 c3, keep hb6 c4, keep hb6 c5, keep hb6 c6, keep hb6 c7, keep hb6 c8, keep hb6 c9, keep hb6 c10, keep hb6 c11⟩
      | with_reducible exact ⟨cell_store14 (keep hb6 c0) hne m _ _, cell_store14 (keep hb6 c1) hne m _ _, cell_store14 (keep hb6 c2) hne m _ _, cell_store14 (keep hb6 c3) hne m _ _, cell_store14 (keep hb6 c4) hne m _ _, cell_store14 (keep hb6 c5) hne m _ _, cell_store14 (keep hb6 c6) hne m _ _, cell_store14 (keep hb6 c7) hne m _ _, cell_store14 (keep hb6 c8) hne m _ _, cell_store14 (keep hb6 c9) hne m _ _, cell_store14 (keep hb6 c10) hne m _ _, cell_store14 (keep hb6 c11) hne m _ _⟩)
    (first
      | (have hb5' := hb5; clear hb5'; go_at_call 57; refine (WH.out _).mono ?_; rintro e w6 ⟨L2, rfl, hL2, hI2, hb⟩; have hb6 : Below W2.heap.size W2 w6 := belT hb5 hb; have hT6 := HT2.out.below hb6; have t0 : w6.cell? ⟨w.heap.size + 1, 0, none⟩ = some (.int .i64 0) := hT6.cell 0; have t1 : w6.cell? ⟨w.heap.size + 1, 1, none⟩ = some (.int .i64 0) := hT6.cell 1; have t2 : w6.cell? ⟨w.heap.size + 1, 2, none⟩ = some (.int .i64 0) := hT6.cell 2; have t3 : w6.cell? ⟨w.heap.size + 1, 3, none⟩ = some (.int .i64 0) := hT6.cell 3; have t4 : w6.cell? ⟨w.heap.size + 1, 4, none⟩ = some (.int .i64 0) := hT6.cell 4; have t5 : w6.cell? ⟨w.heap.size + 1, 5, none⟩ = some (.int .i64 0) := hT6.cell 5; have t6 : w6.cell? ⟨w.heap.size + 1, 6, none⟩ = some (.int .i64 0) := hT6.cell 6; have t7 : w6.cell? ⟨w.heap.size + 1, 7, none⟩ = some (.int .i64 0) := hT6.cell 7; have t8 : w6.cell? ⟨w.heap.size + 1, 8, none⟩ = some (.int .i64 0) := hT6.cell 8; have t9 : w6.cell? ⟨w.heap.size + 1, 9, none⟩ = some (.int .i64 0) := hT6.cell 9; have t10 : w6.cell? ⟨w.heap.size + 1, 10, none⟩ = some (.int .i64 0) := hT6.cell 10; have t11 : w6.cell? ⟨w.heap.size + 1, 11, none⟩ = some (.int .i64 0) := hT6.cell 11; have t12 : w6.cell? ⟨w.heap.size + 1, 12, none⟩ = some (.slice none 0 0) := hT6.cell 12; have t13 : w6.cell? ⟨w.heap.size + 1, 13, none⟩ = some (.slice none 0 0) := hT6.cell 13; have fz := hT6.frozen)
      | (go_at_call 57; refine (WC.out _).mono ?_; rintro e w5 ⟨L1, rfl, hL1, hI1, hb⟩; have hb5 : Below W2.heap.size W2 w5 := belT (Below.drew (Below.refl _ _)) hb))
  have hA1 := hI1.same (hb.block L1 hI1.lt)
  have hT6 := HT2.out.below hb6
  have s2 := HT2.out.lt
  have z1 : W2.heap.size ≤ L1 := hL1
  have z2 : W2.heap.size ≤ L2 := Nat.le_trans hb5.size hL2
  go_wp2_with fail
  refine bodyPost_ret (results_tm rfl _ (.int .i64 0) rfl rfl (hT6.store14 m _ _)) rfl ⟨L1, L2, rfl, other_store14 hA1 (by omega) m _ _, other_store14 hI2 (by omega) m _ _, below_store14 (belT HB3.out hb6) (Nat.le_succ _) m _ _⟩


end Go.Proofs.YtcncmlpppabbcaaGreat
