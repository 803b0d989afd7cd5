/- Proved here: contracts of functions of the program, each for every input that its statement names. The walk of the check of one step. -/
import Derived.Test.YtnombgiacfeloaaW8
import Derived.Test.YtnombgiacfeloaaM1
namespace Go.Proofs.Ytnombgiacfeloaa
set_option linter.unusedVariables false
set_option linter.unusedSimpArgs false
open Go.RowKit

set_option maxHeartbeats 1000000 in
theorem checkEq_any (x y : Stp) (B : Nat) (w : World) (hp : w.cell? ⟨B, 0, none⟩ = some (.string x.name)) :
    Calls Try.prog 59 #[.agg #[.string y.name, .int .i64 y.lo, .int .i64 y.hi, .int .i64 y.err], .pointer (some ⟨B, 0, none⟩)] w fun e w' => e = .returned (.bool (eqN y.name x.name)) ∧ Below w.heap.size w w' := by
  obtain ⟨n, lo, hi, er⟩ := y
  have hl := lt_of_cell hp
  go_enter Try.func59, Try.ntmps59
  go_wp2_with fail
  go_ret
  exact ⟨rfl, by (repeat (first | assumption | exact Below.refl _ _ | refine Below.alloc ?_ (by (try simp) <;> omega) _ | refine below_drewN ?_ _ | refine Below.drew ?_ | refine Below.setCell ?_ (by (try simp) <;> omega) _ | refine Below.trans ?_ (Below.mono (by assumption) (by (try simp) <;> omega))))⟩

set_option maxHeartbeats 1000000 in
theorem indexStp_any (x : Stp) (B : Nat) (v : Value) (ss : List Stp) (w : World) (h : Rd w 4 v (stpRows ss)) (hp : w.cell? ⟨B, 0, none⟩ = some (.string x.name)) :
    Calls Try.prog 90 #[v, .func (.func 59) #[] #[.pointer (some ⟨B, 0, none⟩)]] w fun e w' => e = .returned (.int .i64 (idx (fun y : Stp => eqN y.name x.name) ss 0)) ∧ Below w.heap.size w w' := by
  obtain ⟨a, c, rfl, -, hm, hr⟩ := h.stps
  have H := Lib.hid hr
  have P0 := Lib.hid hp
  clear hr h hp
  go_enter Try.func90, Try.ntmps90
  go_wp2_with fail
  go_loopw [5, 8] (fun _ i wr => ∃ k : Nat, k ≤ ss.length ∧ i = .int .i64 k ∧ Below w.heap.size w wr ∧ Hid (∀ j (hj : j < k) (hz : j < ss.length), eqN ss[j].name x.name = false)) (fun _ i _ => ss.length - (intOf i).toNat)
  case atStart => exact ⟨0, Nat.zero_le _, rfl, Below.refl _ _, fun j hj => absurd hj (Nat.not_lt_zero _)⟩
  case round =>
    obtain ⟨k, hk, rfl, hB, A⟩ := hrel
    by_cases hlt : k < ss.length
    · obtain ⟨b, off, rfl, hbl, hc⟩ := H.out (by omega)
      obtain ⟨g1, g2, g3, g4⟩ := hc k hlt
      clear hc
      rw [← hB.cell (p := ⟨b, _, none⟩) hbl] at g1 g2 g3 g4
      generalize hy : ss[k] = y at g1 g2 g3 g4
      have HY := Lib.hid hy
      clear hy
      cases hq : eqN y.name x.name
      · have HQ := Lib.hid hq
        clear hq
        go_wp2_with fail
        refine (checkEq_any x y B _ (keep hB P0.out)).mono ?_
        rw [HQ.out]
        rintro e w1 ⟨rfl, hb⟩
        have hk : Below wr.heap.size wr w1 := by (repeat (first | assumption | exact Below.refl _ _ | refine Below.alloc ?_ (by (try simp) <;> omega) _ | refine below_drewN ?_ _ | refine Below.drew ?_ | refine Below.setCell ?_ (by (try simp) <;> omega) _ | refine Below.trans ?_ (Below.mono (by assumption) (by (try simp) <;> omega))))
        replace hB := hB.trans (hk.mono hB.size)
        have hzw1 := hB.size
        clear hk hb
        go_wp2_with fail
        go_roundw
        case rel =>
          refine ⟨k + 1, by omega, by go_num, hB, fun j hj hz => ?_⟩
          by_cases e : j = k
          · subst e; rw [HY.out]; exact HQ.out
          · exact A.out j (by omega) hz
        case measure => simp [intOf]; omega
      · have HQ := Lib.hid hq
        clear hq
        go_wp2_with fail
        refine (checkEq_any x y B _ (keep hB P0.out)).mono ?_
        rw [HQ.out]
        rintro e w1 ⟨rfl, hb⟩
        have hk : Below wr.heap.size wr w1 := by (repeat (first | assumption | exact Below.refl _ _ | refine Below.alloc ?_ (by (try simp) <;> omega) _ | refine below_drewN ?_ _ | refine Below.drew ?_ | refine Below.setCell ?_ (by (try simp) <;> omega) _ | refine Below.trans ?_ (Below.mono (by assumption) (by (try simp) <;> omega))))
        replace hB := hB.trans (hk.mono hB.size)
        have hzw1 := hB.size
        clear hk hb
        go_wp2_with fail
        go_ret
        refine ⟨ret_int ?_, hB⟩
        rw [idx_hit _ ss 0 k hlt (by rw [HY.out]; exact HQ.out) (fun j hj => A.out j hj _)]
        simp
    · go_wp2_with fail
      go_ret
      refine ⟨ret_int ?_, hB⟩
      rw [idx_miss _ ss 0 (fun j hj => A.out j (by omega) hj)]

set_option maxHeartbeats 1000000 in
theorem containsStp_any (x : Stp) (B : Nat) (v : Value) (ss : List Stp) (w : World) (h : Rd w 4 v (stpRows ss)) (hp : w.cell? ⟨B, 0, none⟩ = some (.string x.name)) :
    Calls Try.prog 58 #[v, .func (.func 59) #[] #[.pointer (some ⟨B, 0, none⟩)]] w fun e w' => e = .returned (.bool (ss.any (fun y => eqN y.name x.name))) ∧ Below w.heap.size w w' := by
  go_enter Try.func58, Try.ntmps58
  go_wp2_with (go_at_call 90; refine (indexStp_any x B v ss _ h hp).mono ?_; rintro e w' ⟨rfl, hb⟩)
  go_ret
  exact ⟨ret_bool (idx_any _ _ _), hb⟩

set_option maxHeartbeats 1000000 in
theorem checkStep_any (err : Int) (ss : List Stp) (i B b off c : Nat) (x : Stp) (w : World) (h0 : w.cell? ⟨B, 0, none⟩ = some (.int .i64 err)) (h1 : w.cell? ⟨B, 1, none⟩ = some (.slice (some ⟨b, off, none⟩) ss.length c))
    (h : Rd w 4 (.slice (some ⟨b, off, none⟩) ss.length c) (stpRows ss)) (hi : i < ss.length) (hs : x.name.size ≤ 9223372036854775807) :
    Calls Try.prog 56 #[.int .i64 i, .agg #[.string x.name, .int .i64 x.lo, .int .i64 x.hi, .int .i64 x.err], .pointer (some ⟨B, 0, none⟩)] w fun e w' => e = .returned (.int .i64 (stepErr (ss.take i) x)) ∧ Below w.heap.size w w' := by
  have hB := Below.refl w.heap.size w
  have hl0 := lt_of_cell h0
  have hct := h
  obtain ⟨_, _, hv, hcc, hm, -⟩ := hct
  simp only [Value.slice.injEq] at hv
  obtain ⟨-, -, rfl⟩ := hv
  rw [stpRows_length] at hcc hm
  have htk : stpRows (ss.take i) = (stpRows ss).take i := by simp [stpRows]
  have HR := Lib.hid h
  have HT := Lib.hid htk
  clear h htk
  obtain ⟨n, lo, hi', er⟩ := x
  dsimp only at hs
  go_enter Try.func56, Try.ntmps56
  go_wp2_with fail
  refine (waxName_any n _ hs).mono ?_
  rintro e w1 ⟨rfl, hb⟩
  have g0 : w1.cell? ⟨w.heap.size, 0, none⟩ = some (.string n) := keep hb (by simp [go_sem])
  have g1 : w1.cell? ⟨w.heap.size, 1, none⟩ = some (.int .i64 lo) := keep hb (by simp [go_sem])
  have g2 : w1.cell? ⟨w.heap.size, 2, none⟩ = some (.int .i64 hi') := keep hb (by simp [go_sem])
  have g3 : w1.cell? ⟨w.heap.size, 3, none⟩ = some (.int .i64 er) := keep hb (by simp [go_sem])
  have hk : Below w.heap.size w w1 := by (repeat (first | assumption | exact Below.refl _ _ | refine Below.alloc ?_ (by (try simp) <;> omega) _ | refine below_drewN ?_ _ | refine Below.drew ?_ | refine Below.setCell ?_ (by (try simp) <;> omega) _ | refine Below.trans ?_ (Below.mono (by assumption) (by (try simp) <;> omega))))
  replace hB := hB.trans (hk.mono hB.size)
  have hzw1 := hB.size
  replace h0 := keep hk h0
  replace h1 := keep hk h1
  have lh0 := lt_of_cell h0
  clear hk hb
  have lg := lt_of_cell g0
  cases hq1 : nameOk n
  · go_wp2_with fail
    go_ret
    exact ⟨ret_int (by simp [stepErr, hq1]), by (repeat (first | assumption | exact Below.refl _ _ | refine Below.alloc ?_ (by (try simp) <;> omega) _ | refine below_drewN ?_ _ | refine Below.drew ?_ | refine Below.setCell ?_ (by (try simp) <;> omega) _ | refine Below.trans ?_ (Below.mono (by assumption) (by (try simp) <;> omega))))⟩
  · go_wp2_with fail
    refine (containsStp_any ⟨n, lo, hi', er⟩ w.heap.size _ (ss.take i) _ (by rw [HT.out]; exact (HR.out.below hB).take i (by rw [stpRows_length]; omega)) g0).mono ?_
    rintro e w2 ⟨rfl, hb⟩
    have hk : Below w1.heap.size w1 w2 := by (repeat (first | assumption | exact Below.refl _ _ | refine Below.alloc ?_ (by (try simp) <;> omega) _ | refine below_drewN ?_ _ | refine Below.drew ?_ | refine Below.setCell ?_ (by (try simp) <;> omega) _ | refine Below.trans ?_ (Below.mono (by assumption) (by (try simp) <;> omega))))
    replace hB := hB.trans (hk.mono hB.size)
    have hzw2 := hB.size
    replace h0 := keep hk h0
    replace h1 := keep hk h1
    replace g0 := keep hk g0
    replace g1 := keep hk g1
    replace g2 := keep hk g2
    replace g3 := keep hk g3
    have lh0 := lt_of_cell h0
    have lg0 := lt_of_cell g0
    clear hk hb
    generalize hq2' : (ss.take i).any (fun y => eqN y.name n) = q2
    have HQ2 := Lib.hid hq2'
    clear hq2'
    cases q2
    · go_wp2_with fail
      refine (out_any _ _ _ [lo, hi', er] _ (Rd.made3 _ _ _ _ _ _ (by simp))).mono ?_
      rintro e w3 ⟨rfl, hb⟩
      have hk : Below w2.heap.size w2 w3 := by (repeat (first | assumption | exact Below.refl _ _ | refine Below.alloc ?_ (by (try simp) <;> omega) _ | refine below_drewN ?_ _ | refine Below.drew ?_ | refine Below.setCell ?_ (by (try simp) <;> omega) _ | refine Below.trans ?_ (Below.mono (by assumption) (by (try simp) <;> omega))))
      replace hB := hB.trans (hk.mono hB.size)
      have hzw3 := hB.size
      replace g0 := keep hk g0
      replace g1 := keep hk g1
      replace g2 := keep hk g2
      replace g3 := keep hk g3
      have lg0 := lt_of_cell g0
      clear hk hb
      cases hq3 : anyOut 0 1000000 [lo, hi', er]
      · by_cases hlt : hi' < lo
        all_goals
          go_wp2_with fail
          go_ret
          exact ⟨ret_int (by simp [stepErr, hq1, HQ2.out, hq3, hlt]), by (repeat (first | assumption | exact Below.refl _ _ | refine Below.alloc ?_ (by (try simp) <;> omega) _ | refine below_drewN ?_ _ | refine Below.drew ?_ | refine Below.setCell ?_ (by (try simp) <;> omega) _ | refine Below.trans ?_ (Below.mono (by assumption) (by (try simp) <;> omega))))⟩
      · go_wp2_with fail
        go_ret
        exact ⟨ret_int (by simp [stepErr, hq1, HQ2.out, hq3]), by (repeat (first | assumption | exact Below.refl _ _ | refine Below.alloc ?_ (by (try simp) <;> omega) _ | refine below_drewN ?_ _ | refine Below.drew ?_ | refine Below.setCell ?_ (by (try simp) <;> omega) _ | refine Below.trans ?_ (Below.mono (by assumption) (by (try simp) <;> omega))))⟩
    · go_wp2_with fail
      go_ret
      exact ⟨ret_int (by simp [stepErr, hq1, HQ2.out]), by (repeat (first | assumption | exact Below.refl _ _ | refine Below.alloc ?_ (by (try simp) <;> omega) _ | refine below_drewN ?_ _ | refine Below.drew ?_ | refine Below.setCell ?_ (by (try simp) <;> omega) _ | refine Below.trans ?_ (Below.mono (by assumption) (by (try simp) <;> omega))))⟩

end Go.Proofs.Ytnombgiacfeloaa
