/- Contracts: bits.Mul at 1 and a small number, slices.Repeat of one element. -/
import Derived.Test.YtcncmlpppabbcaaGreatD2
namespace Go.Proofs.YtcncmlpppabbcaaGreat
set_option linter.unusedVariables false
set_option linter.unusedSimpArgs false
open Go.RowKit

set_option maxHeartbeats 1000000 in
theorem mul64_one (n : Nat) (hn : n ≤ 8) (w : World) : Calls Tryz.prog 104 #[.int .u64 1, .int .u64 n] w fun e w' => e = .returned (.tuple #[.int .u64 0, .int .u64 n]) ∧ w = w' := by
  have h : n = 0 ∨ n = 1 ∨ n = 2 ∨ n = 3 ∨ n = 4 ∨ n = 5 ∨ n = 6 ∨ n = 7 ∨ n = 8 := by omega
  clear hn
  rcases h with rfl | rfl | rfl | rfl | rfl | rfl | rfl | rfl | rfl <;>
    (go_enter Tryz.func104, Tryz.ntmps104
     go_wp2
     exact bodyPost_ret (v := .tuple #[.int .u64 0, .int .u64 _]) (by simp [results, Tryz.results104, go_sem] <;> kernel_rfl) rfl ⟨rfl, rfl⟩)

set_option maxHeartbeats 1000000 in
theorem mul_one (n : Nat) (hn : n ≤ 8) (w : World) : Calls Tryz.prog 91 #[.int .u64 1, .int .u64 n] w fun e w' => e = .returned (.tuple #[.int .u64 0, .int .u64 n]) ∧ w = w' := by
  go_enter Tryz.func91, Tryz.ntmps91
  go_wp2_with (go_at_call 104; refine (mul64_one n hn _).mono ?_; rintro e w' ⟨rfl, rfl⟩)
  exact bodyPost_ret (v := .tuple #[.int .u64 0, .int .u64 n]) (by simp [results, Tryz.results91, go_sem]) rfl ⟨rfl, rfl⟩

end Go.Proofs.YtcncmlpppabbcaaGreat
