/- The statement 'StubBags', walked: Judge and Best are as the reference says. -/
import Derived.Test.YtnombgiacfeloaaL1
import Derived.Test.YtnombgiacfeloaaW23
namespace Go.Proofs.Ytnombgiacfeloaa
set_option linter.unusedVariables false
set_option linter.unusedSimpArgs false
open Go.RowKit

set_option maxHeartbeats 400000 in
theorem refBest_no (a f : Int) (v : Value) (bs : List Bag) (w : World) (h : Rd w 3 v (bagRows bs)) (he : beginErr a f bs ≠ 0) :
    Calls Try.prog 33 #[.agg #[.int .i64 a, .int .i64 f], v] w fun e w' => e = .returned (.tuple #[.slice none 0 0, .int .i64 (beginErr a f bs)]) ∧ Below w.heap.size w w' := by
  have hB := Below.refl w.heap.size w
  have j2 := refBags_any a f v bs _ (h.below (below_alloc1 w (.cells #[.int .i64 a, .int .i64 f] 46)))
  generalize beginErr a f bs = E at *
  have t1 : (E != 0) = true := by rw [bne_iff_ne]; exact he
  have J2 := Lib.hid j2
  clear j2 he h
  go_enter Try.func33, Try.ntmps33
  go_wp2_with fail
  refine J2.out.mono ?_
  rintro e w1 ⟨rfl, hb⟩
  have hk : Below w.heap.size w w1 := by (repeat (first | assumption | exact Below.refl _ _ | refine Below.alloc ?_ (by (try simp) <;> omega) _ | refine below_drewN ?_ _ | refine Below.drew ?_ | refine Below.setCell ?_ (by (try simp) <;> omega) _ | refine Below.trans ?_ (Below.mono (by assumption) (by (try simp) <;> omega))))
  replace hB := hB.trans (hk.mono hB.size)
  have hzw1 := hB.size
  clear hk hb
  go_wp2_with fail
  go_ret2
  exact ⟨rfl, hB⟩

set_option maxRecDepth 100000 in
set_option maxHeartbeats 2000000 in
theorem bags_law (a f : Int) (v : Value) (bs : List Bag) (w : World) (h : Rd w 3 v (bagRows bs)) :
    Calls Try.prog 5 #[.agg #[.int .i64 a, .int .i64 f], v] w fun e w' => e = .returned (.bool true) ∧ Below w.heap.size w w' := by
  have hB := Below.refl w.heap.size w
  have HR := Lib.hid (h.below (below_alloc1 w (.cells #[.int .i64 a, .int .i64 f] 46)))
  clear h
  by_cases he : beginErr a f bs = 0
  · have j1 := judge_ok a f v bs _ HR.out he
    have j2 := fun w' (h : Rd w' 3 v (bagRows bs)) => refJudge_any a f v bs w' h
    have j3 := fun w' (h : Rd w' 3 v (bagRows bs)) => best_ok a f v bs w' h he
    have j4 := fun w' (h : Rd w' 3 v (bagRows bs)) => refBest_ok a f v bs w' h he
    have ej : judgeAt a f bs = verdict a f bs := by simp [judgeAt, he]
    rw [ej, he] at j2
    generalize verdict a f bs = V at *
    generalize bestIdx a f bs = L at *
    have J1 := Lib.hid j1
    have J2 := Lib.hid j2
    have J3 := Lib.hid j3
    have J4 := Lib.hid j4
    clear j1 j2 j3 j4 he ej
    go_enter Try.func5, Try.ntmps5
    go_wp2_with fail
    refine J1.out.mono ?_
    rintro e w1 ⟨rfl, hb⟩
    have c0 : w1.cell? ⟨w.heap.size, 0, none⟩ = some (.int .i64 a) := keep hb (by simp [go_sem])
    have c1 : w1.cell? ⟨w.heap.size, 1, none⟩ = some (.int .i64 f) := keep hb (by simp [go_sem])
    have HR1 := Lib.hid (HR.out.below hb)
    clear J1
    have hk : Below w.heap.size w w1 := by (repeat (first | assumption | exact Below.refl _ _ | refine Below.alloc ?_ (by (try simp) <;> omega) _ | refine below_drewN ?_ _ | refine Below.drew ?_ | refine Below.setCell ?_ (by (try simp) <;> omega) _ | refine Below.trans ?_ (Below.mono (by assumption) (by (try simp) <;> omega))))
    replace hB := hB.trans (hk.mono hB.size)
    have hzw1 := hB.size
    clear hk hb
    go_wp2_with fail
    refine (J2.out _ HR1.out).mono ?_
    rintro e w2 ⟨rfl, hb⟩
    have HR2 := Lib.hid (HR1.out.below hb)
    have hk : Below w1.heap.size w1 w2 := by (repeat (first | assumption | exact Below.refl _ _ | refine Below.alloc ?_ (by (try simp) <;> omega) _ | refine below_drewN ?_ _ | refine Below.drew ?_ | refine Below.setCell ?_ (by (try simp) <;> omega) _ | refine Below.trans ?_ (Below.mono (by assumption) (by (try simp) <;> omega))))
    replace hB := hB.trans (hk.mono hB.size)
    have hzw2 := hB.size
    replace c0 := keep hk c0
    replace c1 := keep hk c1
    have lc0 := lt_of_cell c0
    clear hk hb
    go_wp2_with fail
    refine (J3.out _ HR2.out).mono ?_
    rintro e w3 ⟨l, rfl, hl, hb⟩
    have HL := Lib.hid hl
    have HR3 := Lib.hid (HR2.out.below hb)
    clear hl
    have hk : Below w2.heap.size w2 w3 := by (repeat (first | assumption | exact Below.refl _ _ | refine Below.alloc ?_ (by (try simp) <;> omega) _ | refine below_drewN ?_ _ | refine Below.drew ?_ | refine Below.setCell ?_ (by (try simp) <;> omega) _ | refine Below.trans ?_ (Below.mono (by assumption) (by (try simp) <;> omega))))
    replace hB := hB.trans (hk.mono hB.size)
    have hzw3 := hB.size
    replace c0 := keep hk c0
    replace c1 := keep hk c1
    have lc0 := lt_of_cell c0
    clear hk hb
    go_wp2_with fail
    refine (J4.out _ HR3.out).mono ?_
    rintro e w4 ⟨m, rfl, hm, hb⟩
    have HM := Lib.hid hm
    replace HL := Lib.hid (HL.out.below hb)
    clear hm
    have hk : Below w3.heap.size w3 w4 := by (repeat (first | assumption | exact Below.refl _ _ | refine Below.alloc ?_ (by (try simp) <;> omega) _ | refine below_drewN ?_ _ | refine Below.drew ?_ | refine Below.setCell ?_ (by (try simp) <;> omega) _ | refine Below.trans ?_ (Below.mono (by assumption) (by (try simp) <;> omega))))
    replace hB := hB.trans (hk.mono hB.size)
    have hzw4 := hB.size
    replace c0 := keep hk c0
    replace c1 := keep hk c1
    have lc0 := lt_of_cell c0
    clear hk hb
    go_wp2_with fail
    refine (refInts_same _ _ L _ HL.out HM.out).mono ?_
    rintro e w5 ⟨rfl, hb⟩
    have hk : Below w4.heap.size w4 w5 := by (repeat (first | assumption | exact Below.refl _ _ | refine Below.alloc ?_ (by (try simp) <;> omega) _ | refine below_drewN ?_ _ | refine Below.drew ?_ | refine Below.setCell ?_ (by (try simp) <;> omega) _ | refine Below.trans ?_ (Below.mono (by assumption) (by (try simp) <;> omega))))
    replace hB := hB.trans (hk.mono hB.size)
    have hzw5 := hB.size
    replace c0 := keep hk c0
    replace c1 := keep hk c1
    have lc0 := lt_of_cell c0
    clear hk hb
    go_wp2_with fail
    refine (awake_any _).mono ?_
    rintro e w6 ⟨rfl, hb⟩
    have hk : Below w5.heap.size w5 w6 := by (repeat (first | assumption | exact Below.refl _ _ | refine Below.alloc ?_ (by (try simp) <;> omega) _ | refine below_drewN ?_ _ | refine Below.drew ?_ | refine Below.setCell ?_ (by (try simp) <;> omega) _ | refine Below.trans ?_ (Below.mono (by assumption) (by (try simp) <;> omega))))
    replace hB := hB.trans (hk.mono hB.size)
    have hzw6 := hB.size
    replace c0 := keep hk c0
    replace c1 := keep hk c1
    have lc0 := lt_of_cell c0
    clear hk hb
    go_wp2_with fail
    go_ret
    exact ⟨rfl, hB⟩
  · have j1 := judge_no a f v bs _ HR.out he
    have j2 := fun w' (h : Rd w' 3 v (bagRows bs)) => refJudge_any a f v bs w' h
    have j3 := fun w' (h : Rd w' 3 v (bagRows bs)) => best_no a f v bs w' h he
    have j4 := fun w' (h : Rd w' 3 v (bagRows bs)) => refBest_no a f v bs w' h he
    have ej : judgeAt a f bs = 0 := by simp [judgeAt, he]
    rw [ej] at j2
    generalize beginErr a f bs = E at *
    have J1 := Lib.hid j1
    have J2 := Lib.hid j2
    have J3 := Lib.hid j3
    have J4 := Lib.hid j4
    clear j1 j2 j3 j4 he ej
    go_enter Try.func5, Try.ntmps5
    go_wp2_with fail
    refine J1.out.mono ?_
    rintro e w1 ⟨rfl, hb⟩
    have c0 : w1.cell? ⟨w.heap.size, 0, none⟩ = some (.int .i64 a) := keep hb (by simp [go_sem])
    have c1 : w1.cell? ⟨w.heap.size, 1, none⟩ = some (.int .i64 f) := keep hb (by simp [go_sem])
    have HR1 := Lib.hid (HR.out.below hb)
    clear J1
    have hk : Below w.heap.size w w1 := by (repeat (first | assumption | exact Below.refl _ _ | refine Below.alloc ?_ (by (try simp) <;> omega) _ | refine below_drewN ?_ _ | refine Below.drew ?_ | refine Below.setCell ?_ (by (try simp) <;> omega) _ | refine Below.trans ?_ (Below.mono (by assumption) (by (try simp) <;> omega))))
    replace hB := hB.trans (hk.mono hB.size)
    have hzw1 := hB.size
    clear hk hb
    go_wp2_with fail
    refine (J2.out _ HR1.out).mono ?_
    rintro e w2 ⟨rfl, hb⟩
    have HR2 := Lib.hid (HR1.out.below hb)
    have hk : Below w1.heap.size w1 w2 := by (repeat (first | assumption | exact Below.refl _ _ | refine Below.alloc ?_ (by (try simp) <;> omega) _ | refine below_drewN ?_ _ | refine Below.drew ?_ | refine Below.setCell ?_ (by (try simp) <;> omega) _ | refine Below.trans ?_ (Below.mono (by assumption) (by (try simp) <;> omega))))
    replace hB := hB.trans (hk.mono hB.size)
    have hzw2 := hB.size
    replace c0 := keep hk c0
    replace c1 := keep hk c1
    have lc0 := lt_of_cell c0
    clear hk hb
    go_wp2_with fail
    refine (J3.out _ HR2.out).mono ?_
    rintro e w3 ⟨rfl, hb⟩
    have HR3 := Lib.hid (HR2.out.below hb)
    have hk : Below w2.heap.size w2 w3 := by (repeat (first | assumption | exact Below.refl _ _ | refine Below.alloc ?_ (by (try simp) <;> omega) _ | refine below_drewN ?_ _ | refine Below.drew ?_ | refine Below.setCell ?_ (by (try simp) <;> omega) _ | refine Below.trans ?_ (Below.mono (by assumption) (by (try simp) <;> omega))))
    replace hB := hB.trans (hk.mono hB.size)
    have hzw3 := hB.size
    replace c0 := keep hk c0
    replace c1 := keep hk c1
    have lc0 := lt_of_cell c0
    clear hk hb
    go_wp2_with fail
    refine (J4.out _ HR3.out).mono ?_
    rintro e w4 ⟨rfl, hb⟩
    have hk : Below w3.heap.size w3 w4 := by (repeat (first | assumption | exact Below.refl _ _ | refine Below.alloc ?_ (by (try simp) <;> omega) _ | refine below_drewN ?_ _ | refine Below.drew ?_ | refine Below.setCell ?_ (by (try simp) <;> omega) _ | refine Below.trans ?_ (Below.mono (by assumption) (by (try simp) <;> omega))))
    replace hB := hB.trans (hk.mono hB.size)
    have hzw4 := hB.size
    replace c0 := keep hk c0
    replace c1 := keep hk c1
    have lc0 := lt_of_cell c0
    clear hk hb
    go_wp2_with fail
    refine (refInts_same _ _ [] _ (rd_nil _ 1) (rd_nil _ 1)).mono ?_
    rintro e w5 ⟨rfl, hb⟩
    have hk : Below w4.heap.size w4 w5 := by (repeat (first | assumption | exact Below.refl _ _ | refine Below.alloc ?_ (by (try simp) <;> omega) _ | refine below_drewN ?_ _ | refine Below.drew ?_ | refine Below.setCell ?_ (by (try simp) <;> omega) _ | refine Below.trans ?_ (Below.mono (by assumption) (by (try simp) <;> omega))))
    replace hB := hB.trans (hk.mono hB.size)
    have hzw5 := hB.size
    replace c0 := keep hk c0
    replace c1 := keep hk c1
    have lc0 := lt_of_cell c0
    clear hk hb
    go_wp2_with fail
    refine (awake_any _).mono ?_
    rintro e w6 ⟨rfl, hb⟩
    have hk : Below w5.heap.size w5 w6 := by (repeat (first | assumption | exact Below.refl _ _ | refine Below.alloc ?_ (by (try simp) <;> omega) _ | refine below_drewN ?_ _ | refine Below.drew ?_ | refine Below.setCell ?_ (by (try simp) <;> omega) _ | refine Below.trans ?_ (Below.mono (by assumption) (by (try simp) <;> omega))))
    replace hB := hB.trans (hk.mono hB.size)
    have hzw6 := hB.size
    replace c0 := keep hk c0
    replace c1 := keep hk c1
    have lc0 := lt_of_cell c0
    clear hk hb
    go_wp2_with fail
    go_ret
    exact ⟨rfl, hB⟩

end Go.Proofs.Ytnombgiacfeloaa
