/- The walks of the reference's small functions on sets of kinds: Sets, Has, kinds. -/
import Derived.Test.YtnombgiacfeloaaW1
namespace Go.Proofs.Ytnombgiacfeloaa
set_option linter.unusedVariables false
set_option linter.unusedSimpArgs false
open Go.RowKit

theorem pow2_bd (k : Nat) (h : k ≤ 61) : 1 ≤ 2 ^ k ∧ 2 ^ k ≤ 2305843009213693952 :=
  ⟨Nat.one_le_two_pow, by have := Nat.pow_le_pow_right (n := 2) (by decide) h; simpa using this⟩

set_option maxHeartbeats 400000 in
theorem sets_any (n : Nat) (hn : n ≤ 62) (w : World) :
    Calls Try.prog 50 #[.int .i64 n] w fun e w' => e = .returned (.int .i64 ((2 ^ n : Nat) : Int)) ∧ w' = w := by
  go_enter Try.func50, Try.ntmps50
  go_wp2
  go_loopw [3, 4] (fun x i wr => ∃ k : Nat, k ≤ n ∧ x = .int .i64 ((2 ^ k : Nat) : Int) ∧ i = .int .i64 k ∧ wr = w) (fun _ i _ => n - (intOf i).toNat)
  case atStart => exact ⟨0, by omega, rfl, rfl, rfl⟩
  case round =>
    obtain ⟨k, hk, rfl, rfl, rfl⟩ := hrel
    by_cases hlt : k < n
    · have hlt' : (k : Int) < n := by omega
      have hb := pow2_bd k (by omega)
      have e2 : 2 ^ (k + 1) = 2 * 2 ^ k := by rw [Nat.pow_succ, Nat.mul_comm]
      obtain ⟨y, hy⟩ : ∃ y, 2 ^ k = y := ⟨_, rfl⟩
      rw [hy] at hb e2 ⊢
      have E2 := Lib.hid e2
      clear e2 hy
      go_wp2
      refine ⟨⟨k + 1, by omega, ?_, by go_num, trivial⟩, by simp [intOf]; omega⟩
      rw [E2.out]
      go_num
    · obtain rfl : k = n := by omega
      go_wp2
      go_ret
      exact ⟨rfl, rfl⟩

/-- A set has a kind. -/
def hasK (s k : Nat) : Bool := s / 2 ^ k % 2 == 1

set_option maxHeartbeats 400000 in
theorem has_any (s k : Nat) (hs : s ≤ 1000000) (hk : k ≤ 61) (w : World) :
    Calls Try.prog 52 #[.int .i64 s, .int .i64 k] w fun e w' => e = .returned (.bool (hasK s k)) ∧ w' = w := by
  go_enter Try.func52, Try.ntmps52
  go_wp2_with fail
  refine (sets_any k (by omega) _).mono ?_
  rintro e w' ⟨rfl, rfl⟩
  have hb := pow2_bd k hk
  have ed : hasK s k = (s / 2 ^ k % 2 == 1) := rfl
  obtain ⟨y, hy⟩ : ∃ y, 2 ^ k = y := ⟨_, rfl⟩
  rw [hy] at hb ed ⊢
  have ED := Lib.hid ed
  clear hy ed
  have hne : (y : Int) ≠ 0 := by omega
  go_wp2_with fail
  go_ret
  refine ⟨ret_bool ?_, rfl⟩
  rw [ED.out]
  have q1 : s / y ≤ s := Nat.div_le_self _ _
  have q2 : ((s : Int) / (y : Int)) = ((s / y : Nat) : Int) := rfl
  rw [q2]
  obtain ⟨q, hq⟩ : ∃ q, s / y = q := ⟨_, rfl⟩
  rw [hq] at q1 ⊢
  have q3 : wrap64 (q : Int) = q := by simp only [wrap64]; omega
  have q4 : ((q : Int)).tmod 2 = ((q % 2 : Nat) : Int) := by rw [Int.tmod_eq_emod_of_nonneg (by omega)]; rfl
  rw [q3, q4]
  rcases Nat.mod_two_eq_zero_or_one q with h | h <;> rw [h] <;> rfl

set_option maxHeartbeats 400000 in
theorem kinds_any (a : Int) (w : World) :
    Calls Try.prog 87 #[.int .i64 a] w fun e w' => e = .returned (.bool (!anyOut 1 255 [a])) ∧ w' = w := by
  go_enter Try.func87, Try.ntmps87
  go_wp2_with fail
  refine (sets_any 8 (by omega) _).mono ?_
  rintro e w' ⟨rfl, rfl⟩
  go_wp2_with fail
  refine (in_any _ _ _ _).mono ?_
  rintro e w2 ⟨rfl, rfl⟩
  go_wp2_with fail
  go_ret
  exact ⟨ret_bool (by rw [anyOut1]; simp), rfl⟩

end Go.Proofs.Ytnombgiacfeloaa
