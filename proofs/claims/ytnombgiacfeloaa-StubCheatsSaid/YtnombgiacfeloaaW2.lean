/- Proved here: contracts of functions of the program, each for every input that its statement names. The walks of the first faults of a sort and of bags. -/
import Derived.Test.YtnombgiacfeloaaW1
namespace Go.Proofs.Ytnombgiacfeloaa
set_option linter.unusedVariables false
set_option linter.unusedSimpArgs false
open Go.RowKit

set_option maxHeartbeats 1000000 in
theorem begin1_any (i : Int) (b : Bag) (w : World) :
    Calls Try.prog 97 #[.int .i64 i, .agg #[.int .i64 b.lo, .int .i64 b.hi, .int .i64 b.kinds]] w fun e w' => e = .returned (.int .i64 (bagErr b)) ∧ Below w.heap.size w w' := by
  obtain ⟨lo, hi, k⟩ := b

  have hB := Below.refl w.heap.size w
  go_enter Try.func97, Try.ntmps97
  go_wp2_with fail
  refine (out_any _ _ _ [lo, hi] _ (Rd.made2 _ _ _ _ _ (by simp))).mono ?_
  rintro e w1 ⟨rfl, hb⟩
  have g0 : w1.cell? ⟨w.heap.size, 0, none⟩ = some (.int .i64 lo) := keep hb (by simp)
  have g1 : w1.cell? ⟨w.heap.size, 1, none⟩ = some (.int .i64 hi) := keep hb (by simp)
  have g2 : w1.cell? ⟨w.heap.size, 2, none⟩ = some (.int .i64 k) := keep hb (by simp)
  have l0 := lt_of_cell g0
  have hk : Below w.heap.size w w1 := by (repeat (first | assumption | exact Below.refl _ _ | refine Below.alloc ?_ (by (try simp) <;> omega) _ | refine below_drewN ?_ _ | refine Below.drew ?_ | refine Below.setCell ?_ (by (try simp) <;> omega) _ | refine Below.trans ?_ (Below.mono (by assumption) (by (try simp) <;> omega))))
  replace hB := hB.trans (hk.mono hB.size)
  have hzw1 := hB.size
  clear hk hb
  cases hq1 : anyOut 0 1000000 [lo, hi]
  · go_wp2_with fail
    refine (out_any _ _ _ [k] _ (Rd.made1 _ _ _ _ (by simp))).mono ?_
    rintro e w2 ⟨rfl, hb⟩
    have hk : Below w1.heap.size w1 w2 := by (repeat (first | assumption | exact Below.refl _ _ | refine Below.alloc ?_ (by (try simp) <;> omega) _ | refine below_drewN ?_ _ | refine Below.drew ?_ | refine Below.setCell ?_ (by (try simp) <;> omega) _ | refine Below.trans ?_ (Below.mono (by assumption) (by (try simp) <;> omega))))
    replace hB := hB.trans (hk.mono hB.size)
    have hzw2 := hB.size
    replace g0 := keep hk g0
    replace g1 := keep hk g1
    replace g2 := keep hk g2
    have lg0 := lt_of_cell g0
    clear hk hb
    cases hq2 : anyOut 1 255 [k]
    · by_cases hlt : hi < lo
      all_goals
        go_wp2_with fail
        go_ret
        exact ⟨ret_int (by simp [bagErr, *]), by (repeat (first | assumption | exact Below.refl _ _ | refine Below.alloc ?_ (by (try simp) <;> omega) _ | refine below_drewN ?_ _ | refine Below.drew ?_ | refine Below.setCell ?_ (by (try simp) <;> omega) _ | refine Below.trans ?_ (Below.mono (by assumption) (by (try simp) <;> omega))))⟩
    · go_wp2_with fail
      go_ret
      exact ⟨ret_int (by simp [bagErr, *]), by (repeat (first | assumption | exact Below.refl _ _ | refine Below.alloc ?_ (by (try simp) <;> omega) _ | refine below_drewN ?_ _ | refine Below.drew ?_ | refine Below.setCell ?_ (by (try simp) <;> omega) _ | refine Below.trans ?_ (Below.mono (by assumption) (by (try simp) <;> omega))))⟩
  · go_wp2_with fail
    go_ret
    exact ⟨ret_int (by simp [bagErr, *]), by (repeat (first | assumption | exact Below.refl _ _ | refine Below.alloc ?_ (by (try simp) <;> omega) _ | refine below_drewN ?_ _ | refine Below.drew ?_ | refine Below.setCell ?_ (by (try simp) <;> omega) _ | refine Below.trans ?_ (Below.mono (by assumption) (by (try simp) <;> omega))))⟩

set_option maxHeartbeats 1000000 in
theorem findBags_any (v : Value) (bs : List Bag) (w : World) (h : Rd w 3 v (bagRows bs)) :
    Calls Try.prog 96 #[v, .func (.func 97) #[] #[]] w fun e w' => e = .returned (.tuple #[.int .i64 (firstErr bagErr bs 0).1, .int .i64 (firstErr bagErr bs 0).2]) ∧ Below w.heap.size w w' := by
  obtain ⟨a, c, rfl, -, hm, hr⟩ := h.bags
  have H := Lib.hid hr
  clear hr h
  go_enter Try.func96, Try.ntmps96
  go_wp2_with fail
  go_loopw [10] (fun i wr => ∃ k : Nat, k ≤ bs.length ∧ i = .int .i64 k ∧ Below w.heap.size w wr ∧ Hid (∀ j (hj : j < k) (hz : j < bs.length), bagErr bs[j] = 0)) (fun i _ => bs.length - (intOf i).toNat)
  case atStart => exact ⟨0, Nat.zero_le _, rfl, Below.refl _ _, fun j hj => absurd hj (Nat.not_lt_zero _)⟩
  case round =>
    obtain ⟨k, hk, rfl, hB, A⟩ := hrel
    have hzB := hB.size
    by_cases hlt : k < bs.length
    · obtain ⟨b, off, rfl, hb, hc⟩ := H.out (by omega)
      obtain ⟨g1, g2, g3⟩ := hc k hlt
      clear hc
      rw [← hB.cell (p := ⟨b, _, none⟩) hb] at g1 g2 g3
      generalize hx : bs[k] = x at g1 g2 g3
      have HX := Lib.hid hx
      clear hx
      by_cases hq : bagErr x = 0
      · go_wp2_with fail
        refine (begin1_any _ x _).mono ?_
        rintro e w1 ⟨rfl, hb⟩
        have hk : Below wr.heap.size wr w1 := by (repeat (first | assumption | exact Below.refl _ _ | refine Below.alloc ?_ (by (try simp) <;> omega) _ | refine below_drewN ?_ _ | refine Below.drew ?_ | refine Below.setCell ?_ (by (try simp) <;> omega) _ | refine Below.trans ?_ (Below.mono (by assumption) (by (try simp) <;> omega))))
        replace hB := hB.trans (hk.mono hB.size)
        have hzw1 := hB.size
        clear hk hb
        go_wp2_with fail
        go_roundw
        case rel =>
          refine ⟨k + 1, by omega, by go_num, hB, fun j hj hz => ?_⟩
          by_cases e : j = k
          · subst e; rw [HX.out]; exact hq
          · exact A.out j (by omega) hz
        case measure => simp [intOf]; omega
      · go_wp2_with fail
        refine (begin1_any _ x _).mono ?_
        rintro e w1 ⟨rfl, hb⟩
        have hk : Below wr.heap.size wr w1 := by (repeat (first | assumption | exact Below.refl _ _ | refine Below.alloc ?_ (by (try simp) <;> omega) _ | refine below_drewN ?_ _ | refine Below.drew ?_ | refine Below.setCell ?_ (by (try simp) <;> omega) _ | refine Below.trans ?_ (Below.mono (by assumption) (by (try simp) <;> omega))))
        replace hB := hB.trans (hk.mono hB.size)
        have hzw1 := hB.size
        clear hk hb
        go_wp2_with fail
        go_ret2
        refine ⟨?_, hB⟩
        rw [firstErr_hit bagErr bs 0 k hlt (by rw [HX.out]; exact hq) (fun j hj => A.out j hj _), HX.out]
        simp
    · go_wp2_with fail
      go_ret2
      refine ⟨?_, hB⟩
      rw [firstErr_miss bagErr bs 0 (fun j hj => A.out j (by omega) hj)]
      rfl

end Go.Proofs.Ytnombgiacfeloaa
