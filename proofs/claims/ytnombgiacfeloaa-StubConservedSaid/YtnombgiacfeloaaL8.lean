/- The statement 'StubConserved', walked: what is lost between three points. -/
import Derived.Test.YtnombgiacfeloaaM22
import Derived.Test.YtnombgiacfeloaaW25
import Derived.Test.YtnombgiacfeloaaW14
import Derived.Test.YtnombgiacfeloaaW19
import Derived.Deep.DeepCutAuto
import Derived.BigQuiet
namespace Go.Proofs.Ytnombgiacfeloaa
set_option linter.unusedVariables false
set_option linter.unusedSimpArgs false
open Go.RowKit

set_option maxRecDepth 100000 in
set_option maxHeartbeats 4000000 in
theorem conserved_law (err : Int) (v : Value) (ss : List Stp) (rv : Value) (rs : List Int) (y0 y1 y2 : Int) (w : World) (h : Rd w 4 v (stpRows ss)) (hs : NamesFit ss) (hr : Rd w 1 rv (ints rs)) (hy : (0 ≤ y0 ∧ y0 ≤ 255) ∧ (0 ≤ y1 ∧ y1 ≤ 255) ∧ (0 ≤ y2 ∧ y2 ≤ 255)) :
    Calls Try.prog 9 #[.agg #[.int .i64 err, v], rv, .agg #[.int .u8 y0, .int .u8 y1, .int .u8 y2]] w fun e w' => e = .returned (.bool true) ∧ Below w.heap.size w w' := by
  have hB := Below.refl w.heap.size w
  obtain ⟨q0, q1, q2⟩ := hy
  have HR := Lib.hid h
  have HQ := Lib.hid hr
  have HS := Lib.hid hs
  have v1 := fun w' (h : Rd w' 4 v (stpRows ss)) => valid_any err ss v w' h hs
  cases hv : ((chk err ss).2.2 == 0)
  · rw [hv] at v1
    have V1 := Lib.hid v1
    clear v1 hv h hr hs
    go_enter Try.func9, Try.ntmps9
    go_wp2_with fail
    refine (V1.out _ (HR.out.below (by (repeat (first | assumption | exact Below.refl _ _ | refine Below.alloc ?_ (by (try simp) <;> omega) _ | refine below_drewN ?_ _ | refine Below.drew ?_ | refine Below.setCell ?_ (by (try simp) <;> omega) _ | refine Below.trans ?_ (Below.mono (by assumption) (by (try simp) <;> omega))))))).mono ?_
    rintro e w1 ⟨rfl, hb⟩
    have hk : Below w.heap.size w w1 := by (repeat (first | assumption | exact Below.refl _ _ | refine Below.alloc ?_ (by (try simp) <;> omega) _ | refine below_drewN ?_ _ | refine Below.drew ?_ | refine Below.setCell ?_ (by (try simp) <;> omega) _ | refine Below.trans ?_ (Below.mono (by assumption) (by (try simp) <;> omega))))
    replace hB := hB.trans (hk.mono hB.size)
    have hzw1 := hB.size
    clear hk hb
    go_wp2_with fail
    refine (awake_any _).mono ?_
    rintro e w2 ⟨rfl, hb⟩
    have hk : Below w1.heap.size w1 w2 := by (repeat (first | assumption | exact Below.refl _ _ | refine Below.alloc ?_ (by (try simp) <;> omega) _ | refine below_drewN ?_ _ | refine Below.drew ?_ | refine Below.setCell ?_ (by (try simp) <;> omega) _ | refine Below.trans ?_ (Below.mono (by assumption) (by (try simp) <;> omega))))
    replace hB := hB.trans (hk.mono hB.size)
    have hzw2 := hB.size
    clear hk hb
    go_wp2_with fail
    go_ret
    exact ⟨rfl, hB⟩
  · rw [hv] at v1
    have V1 := Lib.hid v1
    have hc0 : (chk err ss).2.2 = 0 := by simpa using hv
    have hL := chk_ok hc0
    have hl6 := hL.len
    have v2 := fun w' (h : Rd w' 4 v (stpRows ss)) (h' : Rd w' 1 rv (ints rs)) => readings_err err ss rs v rv w' h h' (by omega)
    obtain ⟨sa, sc, rfl, -, hm, hcell⟩ := h.stps
    have HC := Lib.hid hcell
    clear v1 hv h hr hs hcell
    by_cases hrd : rdErr ss rs = 0
    · have hR := rdErr_ok hrd
      have hA := ask_ok hc0 hrd
      rw [hrd] at v2
      have V2 := Lib.hid v2
      by_cases hl2 : ss.length < 2
      · have hl2' : (ss.length : Int) < 2 := by omega
        clear v2 hR hA hrd hL hc0
        go_enter Try.func9, Try.ntmps9
        go_wp2_with fail
        refine (V1.out _ (HR.out.below (by (repeat (first | assumption | exact Below.refl _ _ | refine Below.alloc ?_ (by (try simp) <;> omega) _ | refine below_drewN ?_ _ | refine Below.drew ?_ | refine Below.setCell ?_ (by (try simp) <;> omega) _ | refine Below.trans ?_ (Below.mono (by assumption) (by (try simp) <;> omega))))))).mono ?_
        rintro e w1 ⟨rfl, hb⟩
        have c0 : w1.cell? ⟨w.heap.size, 0, none⟩ = some (.int .i64 err) := keep hb (by simp [go_sem])
        have c1 : w1.cell? ⟨w.heap.size, 1, none⟩ = some (.slice sa ss.length sc) := keep hb (by simp [go_sem])
        have hk : Below w.heap.size w w1 := by (repeat (first | assumption | exact Below.refl _ _ | refine Below.alloc ?_ (by (try simp) <;> omega) _ | refine below_drewN ?_ _ | refine Below.drew ?_ | refine Below.setCell ?_ (by (try simp) <;> omega) _ | refine Below.trans ?_ (Below.mono (by assumption) (by (try simp) <;> omega))))
        replace hB := hB.trans (hk.mono hB.size)
        have hzw1 := hB.size
        clear hk hb
        go_wp2_with fail
        refine (V2.out _ (HR.out.below hB) (HQ.out.below hB)).mono ?_
        rintro e w2 ⟨rfl, hb⟩
        have hk : Below w1.heap.size w1 w2 := by (repeat (first | assumption | exact Below.refl _ _ | refine Below.alloc ?_ (by (try simp) <;> omega) _ | refine below_drewN ?_ _ | refine Below.drew ?_ | refine Below.setCell ?_ (by (try simp) <;> omega) _ | refine Below.trans ?_ (Below.mono (by assumption) (by (try simp) <;> omega))))
        replace hB := hB.trans (hk.mono hB.size)
        have hzw2 := hB.size
        replace c0 := keep hk c0
        replace c1 := keep hk c1
        have lc0 := lt_of_cell c0
        clear hk hb
        go_wp2_with fail
        refine (awake_any _).mono ?_
        rintro e w3 ⟨rfl, hb⟩
        have hk : Below w2.heap.size w2 w3 := by (repeat (first | assumption | exact Below.refl _ _ | refine Below.alloc ?_ (by (try simp) <;> omega) _ | refine below_drewN ?_ _ | refine Below.drew ?_ | refine Below.setCell ?_ (by (try simp) <;> omega) _ | refine Below.trans ?_ (Below.mono (by assumption) (by (try simp) <;> omega))))
        replace hB := hB.trans (hk.mono hB.size)
        have hzw3 := hB.size
        clear hk hb
        go_wp2_with fail
        go_ret
        exact ⟨rfl, hB⟩
      · have hl2' : (2 : Int) ≤ ss.length := by omega
        have e0 := Int.emod_nonneg y0 (by omega : (ss.length : Int) - 1 ≠ 0)
        have e0' := Int.emod_lt_of_pos y0 (by omega : (0 : Int) < (ss.length : Int) - 1)
        obtain ⟨a, ha⟩ : ∃ a : Nat, y0 % ((ss.length : Int) - 1) = a := ⟨(y0 % ((ss.length : Int) - 1)).toNat, by omega⟩
        have hal : a < ss.length - 1 := by omega
        have e1 := Int.emod_nonneg y1 (by omega : (ss.length : Int) - 1 - a ≠ 0)
        have e1' := Int.emod_lt_of_pos y1 (by omega : (0 : Int) < (ss.length : Int) - 1 - a)
        obtain ⟨b, hb⟩ : ∃ b : Nat, (a : Int) + 1 + y1 % ((ss.length : Int) - 1 - a) = b := ⟨((a : Int) + 1 + y1 % ((ss.length : Int) - 1 - a)).toNat, by omega⟩
        have hbl : a < b ∧ b < ss.length := by omega
        have e2 := Int.emod_nonneg y2 (by omega : (ss.length : Int) - b ≠ 0)
        have e2' := Int.emod_lt_of_pos y2 (by omega : (0 : Int) < (ss.length : Int) - b)
        obtain ⟨c, hc⟩ : ∃ c : Nat, (b : Int) + 1 + y2 % ((ss.length : Int) - b) = c := ⟨((b : Int) + 1 + y2 % ((ss.length : Int) - b)).toNat, by omega⟩
        have hcl : b < c ∧ c ≤ ss.length := by omega
        have z0 : ((ss.length : Int) - 1 == 0) = false := by rw [beq_eq_false_iff_ne]; omega
        have z1 : ((ss.length : Int) - 1 - a == 0) = false := by rw [beq_eq_false_iff_ne]; omega
        have z2 : ((ss.length : Int) - b == 0) = false := by rw [beq_eq_false_iff_ne]; omega
        have l1 := fun w' (h : Rd w' 4 (.slice sa ss.length sc) (stpRows ss)) (h' : Rd w' 1 rv (ints rs)) => lost_any err ss rs _ rv a b w' h h' HS.out
        have l2 := fun w' (h : Rd w' 4 (.slice sa ss.length sc) (stpRows ss)) (h' : Rd w' 1 rv (ints rs)) => lost_any err ss rs _ rv b c w' h h' HS.out
        have l3 := fun w' (h : Rd w' 4 (.slice sa ss.length sc) (stpRows ss)) (h' : Rd w' 1 rv (ints rs)) => lost_any err ss rs _ rv a c w' h h' HS.out
        rw [(lost_at hA hbl.1 (by omega)).1, (lost_at hA hbl.1 (by omega)).2] at l1
        rw [(lost_at hA hcl.1 hcl.2).1, (lost_at hA hcl.1 hcl.2).2] at l2
        rw [(lost_at hA (by omega : a < c) hcl.2).1, (lost_at hA (by omega : a < c) hcl.2).2] at l3
        clear e0 e0' e1 e1' e2 e2' v2 hrd hc0 hA hl2
        have sm := s_bd hL
        have cons := fun hs => conserved hL hR hs hbl.1 hcl.1 hcl.2
        have cbd := closed_bd hL hR
        have L1 := Lib.hid l1
        have L2 := Lib.hid l2
        have L3 := Lib.hid l3
        have CONS := Lib.hid cons
        have SM := Lib.hid sm
        have CBD := Lib.hid cbd
        clear l1 l2 l3 cons hL hR sm cbd
        go_enter Try.func9, Try.ntmps9
        go_wp2_with fail
        refine (V1.out _ (HR.out.below (by (repeat (first | assumption | exact Below.refl _ _ | refine Below.alloc ?_ (by (try simp) <;> omega) _ | refine below_drewN ?_ _ | refine Below.drew ?_ | refine Below.setCell ?_ (by (try simp) <;> omega) _ | refine Below.trans ?_ (Below.mono (by assumption) (by (try simp) <;> omega))))))).mono ?_
        rintro e w1 ⟨rfl, hb'⟩
        have c0 : w1.cell? ⟨w.heap.size, 0, none⟩ = some (.int .i64 err) := keep hb' (by simp [go_sem])
        have c1 : w1.cell? ⟨w.heap.size, 1, none⟩ = some (.slice sa ss.length sc) := keep hb' (by simp [go_sem])
        have x0 : w1.cell? ⟨w.heap.size + 1, 0, none⟩ = some (.int .u8 y0) := keep hb' (by simp [go_sem])
        have x1 : w1.cell? ⟨w.heap.size + 1, 1, none⟩ = some (.int .u8 y1) := keep hb' (by simp [go_sem])
        have x2 : w1.cell? ⟨w.heap.size + 1, 2, none⟩ = some (.int .u8 y2) := keep hb' (by simp [go_sem])
        replace hB := belTrans (show Below w.heap.size w ((w.alloc (.cells #[.int .i64 err, .slice sa ss.length sc] 24)).alloc (.cells #[.int .u8 y0, .int .u8 y1, .int .u8 y2] 74)) by (repeat (first | assumption | exact Below.refl _ _ | refine Below.alloc ?_ (by (try simp) <;> omega) _ | refine below_drewN ?_ _ | refine Below.drew ?_ | refine Below.setCell ?_ (by (try simp) <;> omega) _ | refine Below.trans ?_ (Below.mono (by assumption) (by (try simp) <;> omega))))) hb'
        clear hb' V1
        go_wp2_with fail
        refine (V2.out _ (HR.out.below hB) (HQ.out.below hB)).mono ?_
        rintro e w2 ⟨rfl, hb'⟩
        replace c0 := keep hb' c0
        replace c1 := keep hb' c1
        replace x0 := keep hb' x0
        replace x1 := keep hb' x1
        replace x2 := keep hb' x2
        replace hB := belTrans hB hb'
        clear hb' V2
        go_upto_region 4 with fail
        rw [ha]
        go_upto_region 5 with fail
        try rw [hb]
        go_upto_region 6 with fail
        try rw [hc]
        clear ha hb hc x0 x1 x2 z0 z1 z2 q0 q1 q2 hl2'
        cases hsnd : sound (closed err ss rs)
        · rw [hsnd, if_neg Bool.false_ne_true, if_neg Bool.false_ne_true] at L1 L2 L3
          clear hsnd CONS SM CBD HC
          go_wp2_with fail
          refine (L1.out _ (HR.out.below hB) (HQ.out.below hB)).mono ?_
          rintro e w3 ⟨rfl, hb⟩
          have hk : Below w2.heap.size w2 w3 := by (repeat (first | assumption | exact Below.refl _ _ | refine Below.alloc ?_ (by (try simp) <;> omega) _ | refine below_drewN ?_ _ | refine Below.drew ?_ | refine Below.setCell ?_ (by (try simp) <;> omega) _ | refine Below.trans ?_ (Below.mono (by assumption) (by (try simp) <;> omega))))
          replace hB := hB.trans (hk.mono hB.size)
          have hzw3 := hB.size
          replace c0 := keep hk c0
          replace c1 := keep hk c1
          have lc0 := lt_of_cell c0
          clear hk hb
          go_wp2_with fail
          refine (L2.out _ (HR.out.below (by (repeat (first | assumption | exact Below.refl _ _ | refine Below.alloc ?_ (by (try simp) <;> omega) _ | refine below_drewN ?_ _ | refine Below.drew ?_ | refine Below.setCell ?_ (by (try simp) <;> omega) _ | refine Below.trans ?_ (Below.mono (by assumption) (by (try simp) <;> omega)))))) (HQ.out.below (by (repeat (first | assumption | exact Below.refl _ _ | refine Below.alloc ?_ (by (try simp) <;> omega) _ | refine below_drewN ?_ _ | refine Below.drew ?_ | refine Below.setCell ?_ (by (try simp) <;> omega) _ | refine Below.trans ?_ (Below.mono (by assumption) (by (try simp) <;> omega))))))).mono ?_
          rintro e w4 ⟨rfl, hb⟩
          have hk : Below w3.heap.size w3 w4 := by (repeat (first | assumption | exact Below.refl _ _ | refine Below.alloc ?_ (by (try simp) <;> omega) _ | refine below_drewN ?_ _ | refine Below.drew ?_ | refine Below.setCell ?_ (by (try simp) <;> omega) _ | refine Below.trans ?_ (Below.mono (by assumption) (by (try simp) <;> omega))))
          replace hB := hB.trans (hk.mono hB.size)
          have hzw4 := hB.size
          replace c0 := keep hk c0
          replace c1 := keep hk c1
          have lc0 := lt_of_cell c0
          clear hk hb
          go_wp2_with fail
          refine (L3.out _ (HR.out.below (by (repeat (first | assumption | exact Below.refl _ _ | refine Below.alloc ?_ (by (try simp) <;> omega) _ | refine below_drewN ?_ _ | refine Below.drew ?_ | refine Below.setCell ?_ (by (try simp) <;> omega) _ | refine Below.trans ?_ (Below.mono (by assumption) (by (try simp) <;> omega)))))) (HQ.out.below (by (repeat (first | assumption | exact Below.refl _ _ | refine Below.alloc ?_ (by (try simp) <;> omega) _ | refine below_drewN ?_ _ | refine Below.drew ?_ | refine Below.setCell ?_ (by (try simp) <;> omega) _ | refine Below.trans ?_ (Below.mono (by assumption) (by (try simp) <;> omega))))))).mono ?_
          rintro e w5 ⟨rfl, hb⟩
          have hk : Below w4.heap.size w4 w5 := by (repeat (first | assumption | exact Below.refl _ _ | refine Below.alloc ?_ (by (try simp) <;> omega) _ | refine below_drewN ?_ _ | refine Below.drew ?_ | refine Below.setCell ?_ (by (try simp) <;> omega) _ | refine Below.trans ?_ (Below.mono (by assumption) (by (try simp) <;> omega))))
          replace hB := hB.trans (hk.mono hB.size)
          have hzw5 := hB.size
          clear hk hb
          go_wp2_with fail
          refine (awake_any _).mono ?_
          rintro e w6 ⟨rfl, hb⟩
          have hk : Below w5.heap.size w5 w6 := by (repeat (first | assumption | exact Below.refl _ _ | refine Below.alloc ?_ (by (try simp) <;> omega) _ | refine below_drewN ?_ _ | refine Below.drew ?_ | refine Below.setCell ?_ (by (try simp) <;> omega) _ | refine Below.trans ?_ (Below.mono (by assumption) (by (try simp) <;> omega))))
          replace hB := hB.trans (hk.mono hB.size)
          have hzw6 := hB.size
          clear hk hb
          go_wp2_with fail
          go_ret
          exact ⟨rfl, hB⟩
        · rw [hsnd, if_pos rfl, if_pos rfl] at L1 L2 L3
          obtain ⟨k1, k2, k3, k4, k5⟩ := CONS.out hsnd
          have d1 := CBD.out b a
          have d2 := CBD.out a b
          have d3 := CBD.out c b
          have d4 := CBD.out b c
          have d5 := CBD.out c a
          have d6 := CBD.out a c
          obtain ⟨N1, hN1⟩ : ∃ N1, -closed err ss rs b a = N1 := ⟨_, rfl⟩
          obtain ⟨N3, hN3⟩ : ∃ N3, -closed err ss rs c b = N3 := ⟨_, rfl⟩
          obtain ⟨N5, hN5⟩ : ∃ N5, -closed err ss rs c a = N5 := ⟨_, rfl⟩
          rw [hN1] at k1 L1
          rw [hN3] at k1 L2
          rw [hN5] at k1 k3 k5 L3
          have b1 : -4000000000000 ≤ N1 ∧ N1 ≤ 4000000000000 := by omega
          have b3 : -4000000000000 ≤ N3 ∧ N3 ≤ 4000000000000 := by omega
          have b5 : -4000000000000 ≤ N5 ∧ N5 ≤ 4000000000000 := by omega
          clear hN1 hN3 hN5 d1 d3 d5
          generalize closed err ss rs a b = M2 at *
          generalize closed err ss rs b c = M4 at *
          generalize closed err ss rs a c = M6 at *
          clear hsnd CONS CBD
          have K3 := Lib.hid k3
          have K4 := Lib.hid k4
          clear k3 k4
          obtain ⟨gb, goff, rfl, hgb, hcell⟩ := HC.out (by omega)
          have HCC := Lib.hid hcell
          clear hcell HC
          go_wp2_with fail
          refine (L1.out _ (HR.out.below hB) (HQ.out.below hB)).mono ?_
          rintro e w3 ⟨rfl, hb⟩
          have hk : Below w2.heap.size w2 w3 := by (repeat (first | assumption | exact Below.refl _ _ | refine Below.alloc ?_ (by (try simp) <;> omega) _ | refine below_drewN ?_ _ | refine Below.drew ?_ | refine Below.setCell ?_ (by (try simp) <;> omega) _ | refine Below.trans ?_ (Below.mono (by assumption) (by (try simp) <;> omega))))
          replace hB := hB.trans (hk.mono hB.size)
          have hzw3 := hB.size
          replace c0 := keep hk c0
          replace c1 := keep hk c1
          have lc0 := lt_of_cell c0
          clear hk hb
          go_wp2_with fail
          refine (L2.out _ (HR.out.below (by (repeat (first | assumption | exact Below.refl _ _ | refine Below.alloc ?_ (by (try simp) <;> omega) _ | refine below_drewN ?_ _ | refine Below.drew ?_ | refine Below.setCell ?_ (by (try simp) <;> omega) _ | refine Below.trans ?_ (Below.mono (by assumption) (by (try simp) <;> omega)))))) (HQ.out.below (by (repeat (first | assumption | exact Below.refl _ _ | refine Below.alloc ?_ (by (try simp) <;> omega) _ | refine below_drewN ?_ _ | refine Below.drew ?_ | refine Below.setCell ?_ (by (try simp) <;> omega) _ | refine Below.trans ?_ (Below.mono (by assumption) (by (try simp) <;> omega))))))).mono ?_
          rintro e w4 ⟨rfl, hb⟩
          have s0 : w4.cell? ⟨w3.heap.size, 0, none⟩ = some (.int .i64 N1) := keep hb (by simp [go_sem])
          have s1 : w4.cell? ⟨w3.heap.size, 1, none⟩ = some (.int .i64 M2) := keep hb (by simp [go_sem])
          have hk : Below w3.heap.size w3 w4 := by (repeat (first | assumption | exact Below.refl _ _ | refine Below.alloc ?_ (by (try simp) <;> omega) _ | refine below_drewN ?_ _ | refine Below.drew ?_ | refine Below.setCell ?_ (by (try simp) <;> omega) _ | refine Below.trans ?_ (Below.mono (by assumption) (by (try simp) <;> omega))))
          replace hB := hB.trans (hk.mono hB.size)
          have hzw4 := hB.size
          replace c0 := keep hk c0
          replace c1 := keep hk c1
          have lc0 := lt_of_cell c0
          clear hk hb
          go_wp2_with fail
          refine (L3.out _ (HR.out.below (by (repeat (first | assumption | exact Below.refl _ _ | refine Below.alloc ?_ (by (try simp) <;> omega) _ | refine below_drewN ?_ _ | refine Below.drew ?_ | refine Below.setCell ?_ (by (try simp) <;> omega) _ | refine Below.trans ?_ (Below.mono (by assumption) (by (try simp) <;> omega)))))) (HQ.out.below (by (repeat (first | assumption | exact Below.refl _ _ | refine Below.alloc ?_ (by (try simp) <;> omega) _ | refine below_drewN ?_ _ | refine Below.drew ?_ | refine Below.setCell ?_ (by (try simp) <;> omega) _ | refine Below.trans ?_ (Below.mono (by assumption) (by (try simp) <;> omega))))))).mono ?_
          rintro e w5 ⟨rfl, hb⟩
          have u0 : w5.cell? ⟨w4.heap.size, 0, none⟩ = some (.int .i64 N3) := keep hb (by simp [go_sem])
          have u1 : w5.cell? ⟨w4.heap.size, 1, none⟩ = some (.int .i64 M4) := keep hb (by simp [go_sem])
          have hk : Below w4.heap.size w4 w5 := by (repeat (first | assumption | exact Below.refl _ _ | refine Below.alloc ?_ (by (try simp) <;> omega) _ | refine below_drewN ?_ _ | refine Below.drew ?_ | refine Below.setCell ?_ (by (try simp) <;> omega) _ | refine Below.trans ?_ (Below.mono (by assumption) (by (try simp) <;> omega))))
          replace hB := hB.trans (hk.mono hB.size)
          have hzw5 := hB.size
          replace c0 := keep hk c0
          replace c1 := keep hk c1
          replace s0 := keep hk s0
          replace s1 := keep hk s1
          have lc0 := lt_of_cell c0
          have ls0 := lt_of_cell s0
          clear hk hb
          go_upto_region 11 with fail
          obtain ⟨W, hW⟩ : ∃ W, w5.alloc (.cells #[.int .i64 N5, .int .i64 M6] 35) = W := ⟨_, rfl⟩
          have hk : Below w5.heap.size w5 W := by rw [← hW]; exact below_alloc1 _ _
          replace c1 := keep hk c1
          replace s0 := keep hk s0
          replace s1 := keep hk s1
          replace u0 := keep hk u0
          replace u1 := keep hk u1
          have z0 : W.cell? ⟨w5.heap.size, 0, none⟩ = some (.int .i64 N5) := by rw [← hW]; simp [go_sem]
          have z1 : W.cell? ⟨w5.heap.size, 1, none⟩ = some (.int .i64 M6) := by rw [← hW]; simp [go_sem]
          replace hB := belTrans hB hk
          rw [hW]
          clear hW hk c0 L1 L2 L3
          go_wp2_with fail
          go_loopw [16, 17, 18] (fun x y i wr => ∃ k : Nat, k ≤ c - a ∧ x = .int .i64 (accTo (slo ss) a k) ∧ y = .int .i64 (accTo (shi ss) a k) ∧ i = .int .i64 ((a + k : Nat) : Int) ∧ Below W.heap.size W wr) (fun _ _ i _ => c - (intOf i).toNat)
          case atStart => exact ⟨0, Nat.zero_le _, rfl, rfl, by simp, Below.refl _ _⟩
          case round =>
            obtain ⟨k, hk, rfl, rfl, rfl, hW⟩ := hrel
            replace c1 := keep hW c1
            replace s0 := keep hW s0
            replace s1 := keep hW s1
            replace u0 := keep hW u0
            replace u1 := keep hW u1
            replace z0 := keep hW z0
            replace z1 := keep hW z1
            have hBr := belTrans hB hW
            have m1 := accTo_bd (slo ss) a ss.length (fun i hi => by have := SM.out i hi; omega) k (by omega)
            have m2 := accTo_bd (shi ss) a ss.length (fun i hi => by have := SM.out i hi; omega) k (by omega)
            by_cases hlt : k < c - a
            · have hlt' : ((a + k : Nat) : Int) < c := by omega
              have hls : ((a + k : Nat) : Int) < ss.length := by omega
              have hlsn : a + k < ss.length := by omega
              obtain ⟨-, g2, g3, -⟩ := HCC.out (a + k) hlsn
              have r2 : slo ss (a + k) = ss[a + k].lo := by unfold slo; rw [List.getElem?_eq_getElem hlsn]; rfl
              have r3 : shi ss (a + k) = ss[a + k].hi := by unfold shi; rw [List.getElem?_eq_getElem hlsn]; rfl
              have sb := SM.out (a + k) hlsn
              have n1 : accTo (slo ss) a (k + 1) = accTo (slo ss) a k + slo ss (a + k) := rfl
              have n2 : accTo (shi ss) a (k + 1) = accTo (shi ss) a k + shi ss (a + k) := rfl
              rw [← r2] at g2
              rw [← r3] at g3
              rw [← hBr.cell (p := ⟨gb, _, none⟩) hgb] at g2 g3
              generalize slo ss (a + k) = S1 at *
              generalize shi ss (a + k) = S2 at *
              generalize accTo (slo ss) a k = T1 at *
              generalize accTo (shi ss) a k = T2 at *
              have N1' := Lib.hid n1
              have N2' := Lib.hid n2
              have hkk : k ≤ 6 := by omega
              obtain ⟨q, hq⟩ : ∃ q, a + k = q := ⟨_, rfl⟩
              have HQQ := Lib.hid hq
              rw [hq] at hlt' hls hlsn g2 g3 ⊢
              clear n1 n2 r2 r3 hq
              go_wp2_with fail
              go_quiet (fail)
              go_wp2_with fail
              go_roundw
              case rel =>
                refine ⟨k + 1, by omega, ?_, ?_, ?_, belTrans hW (below_drewN (Below.refl _ _) _)⟩
                · rw [N1'.out]
                · rw [N2'.out]
                · have := HQQ.out
                  go_num
              case measure => have := HQQ.out; simp [intOf]; omega
            · have hkc : k = c - a := by omega
              have k3 := K3.out
              have k4 := K4.out
              rw [← hkc] at k3 k4
              have hac : ((a + k : Nat) : Int) = c := by omega
              rw [hac]
              generalize accTo (slo ss) a k = T1 at *
              generalize accTo (shi ss) a k = T2 at *
              clear hac hkc hlt hk K3 K4 SM HCC
              go_wp2_with fail
              refine (awake_any _).mono ?_
              rintro e w6 ⟨rfl, hb⟩
              have hfin := belTrans hBr hb
              go_wp2_with fail
              go_ret
              exact ⟨rfl, hfin⟩
    · have t1 : (rdErr ss rs != 0) = true := by rw [bne_iff_ne]; exact hrd
      generalize rdErr ss rs = E at *
      have V2 := Lib.hid v2
      clear v2 hrd hL hc0
      go_enter Try.func9, Try.ntmps9
      go_wp2_with fail
      refine (V1.out _ (HR.out.below (by (repeat (first | assumption | exact Below.refl _ _ | refine Below.alloc ?_ (by (try simp) <;> omega) _ | refine below_drewN ?_ _ | refine Below.drew ?_ | refine Below.setCell ?_ (by (try simp) <;> omega) _ | refine Below.trans ?_ (Below.mono (by assumption) (by (try simp) <;> omega))))))).mono ?_
      rintro e w1 ⟨rfl, hb⟩
      have c0 : w1.cell? ⟨w.heap.size, 0, none⟩ = some (.int .i64 err) := keep hb (by simp [go_sem])
      have c1 : w1.cell? ⟨w.heap.size, 1, none⟩ = some (.slice sa ss.length sc) := keep hb (by simp [go_sem])
      have hk : Below w.heap.size w w1 := by (repeat (first | assumption | exact Below.refl _ _ | refine Below.alloc ?_ (by (try simp) <;> omega) _ | refine below_drewN ?_ _ | refine Below.drew ?_ | refine Below.setCell ?_ (by (try simp) <;> omega) _ | refine Below.trans ?_ (Below.mono (by assumption) (by (try simp) <;> omega))))
      replace hB := hB.trans (hk.mono hB.size)
      have hzw1 := hB.size
      clear hk hb
      go_wp2_with fail
      refine (V2.out _ (HR.out.below hB) (HQ.out.below hB)).mono ?_
      rintro e w2 ⟨rfl, hb⟩
      have hk : Below w1.heap.size w1 w2 := by (repeat (first | assumption | exact Below.refl _ _ | refine Below.alloc ?_ (by (try simp) <;> omega) _ | refine below_drewN ?_ _ | refine Below.drew ?_ | refine Below.setCell ?_ (by (try simp) <;> omega) _ | refine Below.trans ?_ (Below.mono (by assumption) (by (try simp) <;> omega))))
      replace hB := hB.trans (hk.mono hB.size)
      have hzw2 := hB.size
      clear hk hb
      go_wp2_with fail
      refine (awake_any _).mono ?_
      rintro e w3 ⟨rfl, hb⟩
      have hk : Below w2.heap.size w2 w3 := by (repeat (first | assumption | exact Below.refl _ _ | refine Below.alloc ?_ (by (try simp) <;> omega) _ | refine below_drewN ?_ _ | refine Below.drew ?_ | refine Below.setCell ?_ (by (try simp) <;> omega) _ | refine Below.trans ?_ (Below.mono (by assumption) (by (try simp) <;> omega))))
      replace hB := hB.trans (hk.mono hB.size)
      have hzw3 := hB.size
      clear hk hb
      go_wp2_with fail
      go_ret
      exact ⟨rfl, hB⟩

end Go.Proofs.Ytnombgiacfeloaa
