/- The walk of the reference's 'some': can a bag be of an accepted kind, and of another one. -/
import Derived.Test.YtnombgiacfeloaaR2
namespace Go.Proofs.Ytnombgiacfeloaa
set_option linter.unusedVariables false
set_option linter.unusedSimpArgs false
open Go.RowKit

def goodTo (A K : Nat) : Nat → Bool
  | 0 => false
  | k + 1 => goodTo A K k || (hasK K k && hasK A k)
def forTo (A K : Nat) : Nat → Bool
  | 0 => false
  | k + 1 => forTo A K k || (hasK K k && !hasK A k)

set_option maxHeartbeats 1000000 in
theorem some_any (A K : Nat) (f lo hi : Int) (hA : A ≤ 255) (hK : K ≤ 255) (w : World) :
    Calls Try.prog 99 #[.agg #[.int .i64 A, .int .i64 f], .agg #[.int .i64 lo, .int .i64 hi, .int .i64 K]] w fun e w' => e = .returned (.tuple #[.bool (goodTo A K 8), .bool (forTo A K 8)]) ∧ Below w.heap.size w w' := by
  go_enter Try.func99, Try.ntmps99
  go_wp2_with fail
  go_loopw [6, 7, 8] (fun g o i wr => ∃ k : Nat, k ≤ 8 ∧ g = .bool (goodTo A K k) ∧ o = .bool (forTo A K k) ∧ i = .int .i64 k ∧ wr = (w.alloc (.cells #[.int .i64 A, .int .i64 f] 46)).alloc (.cells #[.int .i64 lo, .int .i64 hi, .int .i64 K] 57)) (fun _ _ i _ => 8 - (intOf i).toNat)
  case atStart => exact ⟨0, by omega, rfl, rfl, rfl, rfl⟩
  case round =>
    obtain ⟨k, hk, rfl, rfl, rfl, rfl⟩ := hrel
    by_cases hlt : k < 8
    · have hlt' : (k : Int) < 8 := by omega
      have e1 : goodTo A K (k + 1) = (goodTo A K k || (hasK K k && hasK A k)) := rfl
      have e2 : forTo A K (k + 1) = (forTo A K k || (hasK K k && !hasK A k)) := rfl
      have E1 := Lib.hid e1
      have E2 := Lib.hid e2
      clear e1 e2
      generalize goodTo A K k = g at E1 ⊢
      generalize forTo A K k = o at E2 ⊢
      go_wp2_with fail
      refine (has_any K k (by omega) (by omega) _).mono ?_
      rintro e w1 ⟨rfl, rfl⟩
      cases h1 : hasK K k
      · go_wp2_with fail
        go_roundw
        case rel => exact ⟨k + 1, by omega, by rw [E1.out, h1]; simp, by rw [E2.out, h1]; simp, by go_num, trivial⟩
        case measure => simp [intOf]; omega
      · cases g <;> cases o
        all_goals go_wp2_with (go_at_call 52; refine (has_any A k (by omega) (by omega) _).mono ?_; rintro e w1 ⟨rfl, rfl⟩)
        all_goals go_roundw
        all_goals first | exact ⟨k + 1, by omega, by rw [E1.out, h1]; simp, by rw [E2.out, h1]; simp, by go_num, trivial⟩ | (simp [intOf]; omega)
    · obtain rfl : k = 8 := by omega
      go_wp2_with fail
      go_ret2
      exact ⟨rfl, by (repeat (first | assumption | exact Below.refl _ _ | refine Below.alloc ?_ (by (try simp) <;> omega) _ | refine below_drewN ?_ _ | refine Below.drew ?_ | refine Below.setCell ?_ (by (try simp) <;> omega) _ | refine Below.trans ?_ (Below.mono (by assumption) (by (try simp) <;> omega))))⟩

end Go.Proofs.Ytnombgiacfeloaa
