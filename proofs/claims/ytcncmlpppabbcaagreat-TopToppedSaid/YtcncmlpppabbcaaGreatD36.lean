/- The walks of mould's Sets and Skin, where they go through. -/
import Derived.Test.YtcncmlpppabbcaaGreatD24
import Derived.Test.YtcncmlpppabbcaaGreatD34
import Derived.Test.YtcncmlpppabbcaaGreatD2
import Derived.Test.YtcncmlpppabbcaaGreatD15
import Derived.BigQuiet
namespace Go.Proofs.YtcncmlpppabbcaaGreat
set_option linter.unusedVariables false
set_option linter.unusedSimpArgs false
open Go.RowKit
attribute [local go_sem] Oper.semAt_some

set_option maxRecDepth 100000 in
set_option maxHeartbeats 2000000 in
theorem sets_ok (m : Mo) (h : chkM m = 0) (hmax : maxTo (whenL m m.phi m.whi) (m.rings.toNat - 1) ≠ 601) (w : World) : Calls Tryz.prog 27 #[.agg m.cells] w fun e w' =>
    ∃ v', e = .returned (.tuple #[v', .int .i64 0]) ∧ Rd w' 2 v' (spanRows ((whenL m m.plo m.wlo).zip (whenL m m.phi m.whi))) ∧ Below w.heap.size w w' := by
  have hm := chkM_ok h
  have op := fun w => open_ok m w h
  have hlc := whenL_length m m.plo m.wlo
  have hlh := whenL_length m m.phi m.whi
  have hwc : whenL m m.plo m.wlo = (List.range m.rings.toNat).map (whenF m m.plo m.wlo) := rfl
  have hwh : whenL m m.phi m.whi = (List.range m.rings.toNat).map (whenF m m.phi m.whi) := rfl
  have r1 : 1 ≤ m.rings.toNat := by have := hm.rings; omega
  have r8 : m.rings.toNat ≤ 8 := by have := hm.rings; omega
  generalize whenL m m.plo m.wlo = cs at *
  generalize whenL m m.phi m.whi = hs at *
  generalize m.rings.toNat = rn at *
  have t1 : (maxTo hs (rn - 1) == 601) = false := by rw [beq_eq_false_iff_ne]; exact hmax
  have HW := Lib.hid (And.intro hwc hwh)
  have HL := Lib.hid (And.intro hlc hlh)
  have HB := Lib.hid (below_alloc1 w (.cells m.cells 25))
  unfold Mo.cells tmCells at op
  have OP := Lib.hid op
  clear h op hwc hwh hlc hlh hmax
  unfold Mo.cells at HB
  unfold Mo.cells
  go_enter Tryz.func27, Tryz.ntmps27
  go_upto_region 2 with (go_at_call 15; refine (OP.out _).mono ?_; rintro e w1 ⟨L1, L2, rfl, hI1, hI2, hb⟩)
  have hA := below_alloc1 w1 (.cells (tmCells m (.slice (some ⟨L1, 0, none⟩) rn rn) (.slice (some ⟨L2, 0, none⟩) rn rn)) 63)
  have hT := TmAt.new w1 m (.slice (some ⟨L1, 0, none⟩) rn rn) (.slice (some ⟨L2, 0, none⟩) rn rn)
  have hB2 := belT (belT HB.out hb) hA
  have hJ1 := hI1.same (hA.block L1 hI1.lt)
  have hJ2 := hI2.same (hA.block L2 hI2.lt)
  change Code.wp _ _ _ _ (w1.alloc (.cells (tmCells m (.slice (some ⟨L1, 0, none⟩) rn rn) (.slice (some ⟨L2, 0, none⟩) rn rn)) 63))
  generalize w1.heap.size = T at *
  generalize (w1.alloc (.cells (tmCells m (.slice (some ⟨L1, 0, none⟩) rn rn) (.slice (some ⟨L2, 0, none⟩) rn rn)) 63)) = W2 at *
  have hR1 := hJ1.rd (by omega)
  have hR2 := hJ2.rd (by omega)
  rw [← HW.out.1] at hR1
  rw [← HW.out.2] at hR2
  have c12 : W2.cell? ⟨T, 12, none⟩ = some (.slice (some ⟨L1, 0, none⟩) rn rn) := hT.cell 12
  have c13 : W2.cell? ⟨T, 13, none⟩ = some (.slice (some ⟨L2, 0, none⟩) rn rn) := hT.cell 13
  have hmx := max_any _ hs W2 hR2 (by rw [HL.out.2]; omega)
  rw [HL.out.2] at hmx
  have HMX := Lib.hid hmx
  have HJN := Lib.hid (joined_any _ _ cs hs (by rw [HL.out.1, HL.out.2]) (by rw [HL.out.1]; omega) (by rw [HL.out.1]; omega) W2 hR1 hR2)
  have HB2 := Lib.hid hB2
  clear hb hI1 hI2 hA HB OP hJ1 hJ2 hT hR1 hR2 hmx hB2
  go_wp2_with (first
    | ((with_reducible go_at_call 17); refine HMX.out.mono ?_; rintro e w' ⟨rfl, rfl⟩)
    | ((with_reducible go_at_call 67); refine HJN.out.mono ?_; rintro e w9 ⟨v9, rfl, hr9, hb9⟩))
  go_ret2
  exact ⟨v9, rfl, hr9, belT HB2.out hb9⟩

theorem size23 (x0 x1 : Value) : (Tryz.prog.info? 23).map (·.size) = some (#[x0, x1] : Array Value).size := by
  show _ = some 2
  kernel_rfl
theorem run_load23 {w : World} {B : Nat} {x0 x1 : Value} (h : w.heap[B]? = some (.cells #[x0, x1] 23 (0, 0))) : (loadVar 23 ⟨B, 0, none⟩).run Tryz.prog w = .ok (.agg #[x0, x1]) w :=
  run_loadVar_row w B 23 23 #[x0, x1] (0, 0) _ h Tryz.underlying23 rfl (size23 x0 x1)
theorem results_two23 {w : World} {B : Nat} {x0 x1 : Value} {fn : Func} {p q : Tmp} (h : fn.results = #[.cell p 23, .tmp q]) (tmps : Array Value) (v : Value) (hp : tmps.getD p undef = .pointer (some ⟨B, 0, none⟩)) (hq : tmps.getD q undef = v) (hT : w.heap[B]? = some (.cells #[x0, x1] 23 (0, 0))) :
    (results fn tmps).run Tryz.prog w = .ok (.tuple #[.agg #[x0, x1], v]) w := by
  have h1 := run_load23 hT
  have hp2 : tmps[p]?.getD undef = .pointer (some ⟨B, 0, none⟩) := by simpa using hp
  have hq2 : tmps[q]?.getD undef = v := by simpa using hq
  simp only [results, h]
  simp [Sem.run_bind, Result.andThen, hp2, hq2, asAddr, h1]
theorem row2s {w : World} {B t : Nat} {x0 x1 : Value} (h : w.heap[B]? = some (.cells #[x0, x1] t (0, 0))) (a b : Value) :
    ((w.setCell ⟨B, 0, none⟩ a).setCell ⟨B, 1, none⟩ b).heap[B]? = some (.cells #[a, b] t (0, 0)) := by
  have h0 : w.heap[B]? = some (.cells [x0, x1].toArray t (0, 0)) := h
  have h1 : (w.setCell ⟨B, 0, none⟩ a).heap[B]? = some (.cells ([x0, x1].set 0 a).toArray t (0, 0)) := heap_setCell_row h0
  have h2 : ((w.setCell ⟨B, 0, none⟩ a).setCell ⟨B, 1, none⟩ b).heap[B]? = some (.cells (([x0, x1].set 0 a).set 1 b).toArray t (0, 0)) := heap_setCell_row h1
  exact h2
theorem cell_set2 {w : World} {B T o : Nat} {a b v : Value} (h : w.cell? ⟨T, o, none⟩ = some v) (hB : B ≠ T) : ((w.setCell ⟨B, 0, none⟩ a).setCell ⟨B, 1, none⟩ b).cell? ⟨T, o, none⟩ = some v :=
  (World.cell?_of_block (heap_setCell_ne hB)).trans ((World.cell?_of_block (heap_setCell_ne hB)).trans h)

set_option maxRecDepth 100000 in
set_option maxHeartbeats 2000000 in
theorem skin_ok (m : Mo) (h : chkM m = 0) (n : Int) (hn : 0 ≤ n ∧ n ≤ 600) (w : World) : Calls Tryz.prog 28 #[.agg m.cells, .int .i64 n] w fun e w' =>
    e = .returned (.tuple #[.agg #[.int .i64 (cntLe n (whenL m m.phi m.whi) m.rings.toNat), .int .i64 (cntLe n (whenL m m.plo m.wlo) m.rings.toNat)], .int .i64 0]) ∧ Below w.heap.size w w' := by
  have hm := chkM_ok h
  have op := fun w => open_ok m w h
  have hlc := whenL_length m m.plo m.wlo
  have hlh := whenL_length m m.phi m.whi
  have hwc : whenL m m.plo m.wlo = (List.range m.rings.toNat).map (whenF m m.plo m.wlo) := rfl
  have hwh : whenL m m.phi m.whi = (List.range m.rings.toNat).map (whenF m m.phi m.whi) := rfl
  have r1 : 1 ≤ m.rings.toNat := by have := hm.rings; omega
  have r8 : m.rings.toNat ≤ 8 := by have := hm.rings; omega
  generalize whenL m m.plo m.wlo = cs at *
  generalize whenL m m.phi m.whi = hs at *
  generalize m.rings.toNat = rn at *
  have HO := Lib.hid (show anyOut 0 600 [n] = false by simp [anyOut, outB]; omega)
  have HW := Lib.hid (And.intro hwc hwh)
  have SK1 := Lib.hid (fun (W : World) (v : Value) (h : Rd W 1 v (ints cs)) => show Calls Tryz.prog 20 #[v, .int .i64 n] W fun e w' => e = .returned (.int .i64 (cntLe n cs rn)) ∧ W = w' by have := skin_any n v cs W h; rw [hlc] at this; exact this)
  have SK2 := Lib.hid (fun (W : World) (v : Value) (h : Rd W 1 v (ints hs)) => show Calls Tryz.prog 20 #[v, .int .i64 n] W fun e w' => e = .returned (.int .i64 (cntLe n hs rn)) ∧ W = w' by have := skin_any n v hs W h; rw [hlh] at this; exact this)
  have HB := Lib.hid (below_alloc2 w (.cells m.cells 25) (.cells #[.int .i64 0, .int .i64 0] 23))
  have HE := Lib.hid (heap_alloc_new (w.alloc (.cells m.cells 25)) (.cells #[.int .i64 0, .int .i64 0] 23))
  unfold Mo.cells tmCells at op
  have OP := Lib.hid op
  clear h op hwc hwh hlc hlh hm hn
  unfold Mo.cells at HB HE
  unfold Mo.cells
  go_enter Tryz.func28, Tryz.ntmps28
  go_upto_region 2 with (go_at_call 15; refine (OP.out _).mono ?_; rintro e w1 ⟨L1, L2, rfl, hI1, hI2, hb⟩)
  have hE : w1.heap[w.heap.size + 1]? = some (.cells #[.int .i64 0, .int .i64 0] 23 (0, 0)) := by
    have h1 := HE.out
    rw [show (w.alloc (.cells #[.int .i64 m.rings, .int .i64 m.give, .int .i64 m.plo, .int .i64 m.phi, .int .i64 m.wlo, .int .i64 m.whi, .int .i64 m.set, .int .i64 m.shrink, .int .i64 m.skin, .int .i64 m.fill, .int .i64 m.gap, .int .i64 m.deep] 25)).heap.size = w.heap.size + 1 by simp] at h1
    exact (hb.block _ (by simp)).trans h1
  have l1 : w.heap.size + 1 < w1.heap.size := (Array.getElem?_eq_some_iff.1 hE).1
  have hA := below_alloc1 w1 (.cells (tmCells m (.slice (some ⟨L1, 0, none⟩) rn rn) (.slice (some ⟨L2, 0, none⟩) rn rn)) 63)
  have hT := TmAt.new w1 m (.slice (some ⟨L1, 0, none⟩) rn rn) (.slice (some ⟨L2, 0, none⟩) rn rn)
  have hE2 := (hA.block _ l1).trans hE
  have hB2 := belT (belT HB.out hb) hA
  have hJ1 := hI1.same (hA.block L1 hI1.lt)
  have hJ2 := hI2.same (hA.block L2 hI2.lt)
  change Code.wp _ _ _ _ (w1.alloc (.cells (tmCells m (.slice (some ⟨L1, 0, none⟩) rn rn) (.slice (some ⟨L2, 0, none⟩) rn rn)) 63))
  generalize w1.heap.size = T at *
  generalize (w1.alloc (.cells (tmCells m (.slice (some ⟨L1, 0, none⟩) rn rn) (.slice (some ⟨L2, 0, none⟩) rn rn)) 63)) = W2 at *
  have hR1 := hJ1.rd (by omega)
  have hR2 := hJ2.rd (by omega)
  rw [← HW.out.1] at hR1
  rw [← HW.out.2] at hR2
  have HR := Lib.hid (And.intro hR1 hR2)
  have HT := Lib.hid hT
  have HB2 := Lib.hid hB2
  have HE2 := Lib.hid hE2
  clear hb hI1 hI2 hA HB OP hJ1 hJ2 hR1 hR2 hT hB2 hE hE2 HE
  go_upto_region 6 with (go_at_call 16; refine (outM1 0 600 n _ _ rfl).mono ?_; rw [HO.out]; rintro e w3 ⟨rfl, hb3⟩)
  have hd := Below.drew (Below.refl w3.heap.size w3)
  have hT3 := HT.out.below hb3
  have c12 : w3.cell? ⟨T, 12, none⟩ = some (.slice (some ⟨L1, 0, none⟩) rn rn) := hT3.cell 12
  have c13 : w3.cell? ⟨T, 13, none⟩ = some (.slice (some ⟨L2, 0, none⟩) rn rn) := hT3.cell 13
  have hE3 := (hb3.block _ (Array.getElem?_eq_some_iff.1 HE2.out).1).trans HE2.out
  have HE3 := Lib.hid hE3
  have lE3 : w.heap.size + 1 < w3.heap.size := (Array.getElem?_eq_some_iff.1 hE3).1
  have HK1 := Lib.hid (HR.out.1.below hb3)
  have HK2 := Lib.hid (HR.out.2.below hb3)
  have HB3 := Lib.hid (belT HB2.out hb3)
  have hne : w.heap.size + 1 ≠ T := by omega
  clear hT3 hE3 hb3 HT HR HB2 HE2
  go_region_held3 (fun w' => w'.cell? ⟨T, 12, none⟩ = some (.slice (some ⟨L1, 0, none⟩) rn rn) ∧ w'.cell? ⟨T, 13, none⟩ = some (.slice (some ⟨L2, 0, none⟩) rn rn))
    (first
      | with_reducible exact ⟨keep hd c12, keep hd c13⟩
      | with_reducible exact ⟨keep hb9 c12, keep hb9 c13⟩
      | with_reducible exact ⟨cell_set2 (keep hb9 c12) hne, cell_set2 (keep hb9 c13) hne⟩)
    (first
      | ((with_reducible go_at_call 20); with_reducible refine (SK1.out _ _ (HK1.out.below hd)).mono ?_; rintro e w' ⟨rfl, rfl⟩)
      | ((with_reducible go_at_call 20); with_reducible refine (SK2.out _ _ (HK2.out.below hd)).mono ?_; rintro e w' ⟨rfl, rfl⟩)
      | ((with_reducible go_at_call 68); refine (spanM_any _ _ _).mono ?_; rintro e w9 ⟨rfl, hb⟩; have hb9 : Below w3.heap.size w3 w9 := belT hd hb; have hE9 := (hb9.block _ lE3).trans HE3.out; have e0 : w9.cell? ⟨w.heap.size + 1, 0, none⟩ = some (.int .i64 0) := cell_of_row w9 _ 0 _ 23 (0, 0) hE9; have e1 : w9.cell? ⟨w.heap.size + 1, 1, none⟩ = some (.int .i64 0) := cell_of_row w9 _ 1 _ 23 (0, 0) hE9; have fz : ∀ o, w9.frozen? ⟨w.heap.size + 1, o, none⟩ = false := fun o => frozen_of_row hE9))
  have HE9 := Lib.hid hE9
  have HB9 := Lib.hid (belT HB3.out hb9)
  clear hE9 hb9 hb e0 e1 fz
  go_wp2_with fail
  refine bodyPost_ret (results_two23 rfl _ (.int .i64 0) rfl rfl (row2s HE9.out _ _)) rfl ⟨rfl, (HB9.out.setCell (p := ⟨w.heap.size + 1, 0, none⟩) (Nat.le_succ _) _).setCell (p := ⟨w.heap.size + 1, 1, none⟩) (Nat.le_succ _) _⟩

end Go.Proofs.YtcncmlpppabbcaaGreat
