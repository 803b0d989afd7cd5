/- Proved here: contracts of functions of the program, each for every input that its statement names. The walks of the comparisons and of 'least'. -/
import Derived.Test.YtnombgiacfeloaaW4
import Derived.Test.YtnombgiacfeloaaM1
import Derived.Deep.RegionHeld3
namespace Go.Proofs.Ytnombgiacfeloaa
set_option linter.unusedVariables false
set_option linter.unusedSimpArgs false
open Go.RowKit

theorem orI_hit (l : List Int) (k : Nat) (hk : k < l.length) (h : l[k] ≠ 0) (hn : ∀ j (hj : j < k), l[j]'(by omega) = 0) : orI l = l[k] := by
  induction l generalizing k with
  | nil => simp at hk
  | cons x l ih =>
    cases k with
    | zero => simp at h; simp [orI, h]
    | succ k =>
      have h0 := hn 0 (by omega)
      simp at h0
      have := ih k (by simpa using hk) (by simpa using h) (fun j hj => by have := hn (j + 1) (by omega); simpa using this)
      simp [orI, h0, this]

theorem orI_miss (l : List Int) (hn : ∀ j (hj : j < l.length), l[j] = 0) : orI l = 0 := by
  induction l with
  | nil => rfl
  | cons x l ih =>
    have h0 := hn 0 (by simp)
    simp at h0
    have := ih (fun j hj => by have := hn (j + 1) (by simpa using hj); simpa using this)
    simp [orI, h0, this]

set_option maxHeartbeats 1000000 in
theorem or_any (v : Value) (zs : List Int) (w : World) (h : Rd w 1 v (ints zs)) :
    Calls Try.prog 82 #[v] w fun e w' => e = .returned (.int .i64 (orI zs)) ∧ w = w' := by
  obtain ⟨a, c, rfl, -, hm, hr⟩ := h.ints
  have H := Lib.hid hr
  clear hr h
  go_enter Try.func82, Try.ntmps82
  go_wp2
  go_loop [8] (fun i => ∃ k : Nat, k ≤ zs.length ∧ i = .int .i64 k ∧ Hid (∀ j (hj : j < k) (hz : j < zs.length), zs[j] = 0)) (fun i => zs.length - (intOf i).toNat)
  case atStart => exact ⟨0, Nat.zero_le _, rfl, fun j hj => absurd hj (Nat.not_lt_zero _)⟩
  case round =>
    obtain ⟨k, hk, rfl, A⟩ := hrel
    by_cases hlt : k < zs.length
    · obtain ⟨b, off, rfl, hb, hc⟩ := H.out (by omega)
      have hcell := hc k hlt
      clear hc
      generalize hz : zs[k] = z at hcell
      have HZ := Lib.hid hz
      clear hz
      by_cases hq : z = 0
      · have hq' : (z != 0) = false := by simp [hq]
        have HQ := Lib.hid hq
        clear hq
        go_wp2
        go_round
        case rel =>
          refine ⟨k + 1, by omega, by go_num, fun j hj hz => ?_⟩
          by_cases e : j = k
          · subst e; rw [HZ.out]; exact HQ.out
          · exact A.out j (by omega) hz
        case measure => simp [intOf]; omega
      · have hq' : (z != 0) = true := by simp [hq]
        have HQ := Lib.hid hq
        clear hq
        go_wp2
        go_ret
        refine ⟨ret_int ?_, rfl⟩
        rw [orI_hit zs k hlt (by rw [HZ.out]; exact HQ.out) (fun j hj => A.out j hj _), HZ.out]
    · go_wp2
      go_ret
      refine ⟨ret_int ?_, rfl⟩
      rw [orI_miss zs (fun j hj => A.out j (by omega) hj)]

set_option maxHeartbeats 400000 in
theorem best1_any (g m b : Int) (w : World) (hg : 0 ≤ g) (hg' : g ≤ 10000000) : Calls Try.prog 79 #[.agg #[.int .i64 g, .int .i64 m, .int .i64 b]] w fun e w' => e = .returned (.int .i64 (-g)) ∧ Below w.heap.size w w' := by
  go_enter Try.func79, Try.ntmps79
  go_wp2
  go_ret
  exact ⟨rfl, by (repeat (first | assumption | exact Below.refl _ _ | refine Below.alloc ?_ (by (try simp) <;> omega) _ | refine below_drewN ?_ _ | refine Below.drew ?_ | refine Below.setCell ?_ (by (try simp) <;> omega) _ | refine Below.trans ?_ (Below.mono (by assumption) (by (try simp) <;> omega))))⟩

set_option maxHeartbeats 400000 in
theorem best2_any (g m b : Int) (w : World) : Calls Try.prog 80 #[.agg #[.int .i64 g, .int .i64 m, .int .i64 b]] w fun e w' => e = .returned (.int .i64 m) ∧ Below w.heap.size w w' := by
  go_enter Try.func80, Try.ntmps80
  go_wp2
  go_ret
  exact ⟨rfl, by (repeat (first | assumption | exact Below.refl _ _ | refine Below.alloc ?_ (by (try simp) <;> omega) _ | refine below_drewN ?_ _ | refine Below.drew ?_ | refine Below.setCell ?_ (by (try simp) <;> omega) _ | refine Below.trans ?_ (Below.mono (by assumption) (by (try simp) <;> omega))))⟩

set_option maxHeartbeats 400000 in
theorem best3_any (g m b : Int) (w : World) (hg : 0 ≤ b) (hg' : b ≤ 10000000) : Calls Try.prog 81 #[.agg #[.int .i64 g, .int .i64 m, .int .i64 b]] w fun e w' => e = .returned (.int .i64 (-b)) ∧ Below w.heap.size w w' := by
  go_enter Try.func81, Try.ntmps81
  go_wp2
  go_ret
  exact ⟨rfl, by (repeat (first | assumption | exact Below.refl _ _ | refine Below.alloc ?_ (by (try simp) <;> omega) _ | refine below_drewN ?_ _ | refine Below.drew ?_ | refine Below.setCell ?_ (by (try simp) <;> omega) _ | refine Below.trans ?_ (Below.mono (by assumption) (by (try simp) <;> omega))))⟩

/- slices.Min at one number. -/
set_option maxHeartbeats 1000000 in
theorem min1_any (a : Addr) (x : Int) (w : World) (h : w.cell? a = some (.int .i64 x)) :
    Calls Try.prog 102 #[.slice (some a) 1 1] w fun e w' => e = .returned (.int .i64 x) ∧ w = w' := by
  go_enter Try.func102, Try.ntmps102
  go_wp2
  go_loop [3, 4] (fun x' i => x' = .int .i64 x ∧ i = .int .i64 1) (fun _ _ => 0)
  case atStart => exact ⟨rfl, rfl⟩
  case round =>
    obtain ⟨rfl, rfl⟩ := hrel
    go_wp2
    go_ret
    exact ⟨rfl, rfl⟩

/- 'least(&m, n)': the cell becomes the less of both. -/
set_option maxHeartbeats 1000000 in
theorem least_any (p a : Addr) (x y : Int) (w : World) (hp : w.cell? p = some (.int .i64 x)) (hf : w.frozen? p = false) (ha : w.cell? a = some (.int .i64 y)) :
    Calls Try.prog 94 #[.pointer (some p), .slice (some a) 1 1] w fun e w' => e = .returned (.tuple #[]) ∧ w' = (w.setCell p (.int .i64 (min x y))).drew := by
  go_enter Try.func94, Try.ntmps94
  go_wp2
  go_region_with (go_at_call 102; refine (min1_any _ y _ ?_).mono ?_; (simp [*]); rintro e w' ⟨rfl, rfl⟩)
  all_goals go_wp2
  all_goals
    go_end0
    refine ⟨rfl, ?_⟩
    first
      | (have e : min x y = y := by omega
         rw [e])
      | (have e : min x y = x := by omega
         rw [e])

end Go.Proofs.Ytnombgiacfeloaa
