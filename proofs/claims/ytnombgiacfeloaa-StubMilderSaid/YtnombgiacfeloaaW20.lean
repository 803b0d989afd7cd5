/- The walk of the laws' 'end': what bags have in the best and in the worst truth. -/
import Derived.Test.YtnombgiacfeloaaR5
import Derived.Deep.RegionWith
namespace Go.Proofs.Ytnombgiacfeloaa
set_option linter.unusedVariables false
set_option linter.unusedSimpArgs false
open Go.RowKit

theorem has_at (s k : Nat) (b : Bool) (h : hasK s k = b) (hs : s ≤ 1000000) (hk : k ≤ 61) (w : World) :
    Calls Try.prog 52 #[.int .i64 s, .int .i64 k] w fun e w' => e = .returned (.bool b) ∧ w' = w := by
  subst h
  exact has_any s k hs hk w

def endF (best : Bool) (a : Int) (b : Bag) : Int := if best then forR a b else badR a b
def endG (best : Bool) (a : Int) (b : Bag) : Int := if best then goodR a b else restR a b

theorem end_bd {bs : List Bag} (h : Good bs) (a : Int) (best : Bool) : (∀ b ∈ bs, 0 ≤ endF best a b ∧ endF best a b ≤ 1000000) ∧ (∀ b ∈ bs, 0 ≤ endG best a b ∧ endG best a b ≤ 1000000) := by
  obtain ⟨p1, p2, p3, p4⟩ := part_bd h a
  cases best
  · exact ⟨p1, p2⟩
  · exact ⟨p3, p4⟩

set_option maxRecDepth 100000 in
set_option maxHeartbeats 4000000 in
theorem end_any (best : Bool) (a f : Int) (v : Value) (bs : List Bag) (w : World) (h : Rd w 3 v (bagRows bs)) (ha : 1 ≤ a ∧ a ≤ 255) (hlen : bs.length ≤ 10) (hg : Good bs) :
    Calls Try.prog 48 #[.agg #[.int .i64 a, .int .i64 f], v, .bool best] w fun e w' => e = .returned (.tuple #[.int .i64 (sumTo (endF best a) bs bs.length), .int .i64 (sumTo (endG best a) bs bs.length)]) ∧ Below w.heap.size w w' := by
  obtain ⟨sa, c, rfl, -, hm, hr⟩ := h.bags
  have H := Lib.hid hr
  obtain ⟨p1, p2⟩ := end_bd hg a best
  have P1 := Lib.hid p1
  have P2 := Lib.hid p2
  have HG := Lib.hid hg
  clear hr h p1 p2 hg
  go_enter Try.func48, Try.ntmps48
  go_wp2_with fail
  go_loopw [8, 9, 10] (fun x y i wr => ∃ k : Nat, k ≤ bs.length ∧ i = .int .i64 k ∧ x = .int .i64 (sumTo (endF best a) bs k) ∧ y = .int .i64 (sumTo (endG best a) bs k) ∧ Below w.heap.size w wr ∧
      wr.cell? ⟨w.heap.size, 0, none⟩ = some (.int .i64 a) ∧ wr.cell? ⟨w.heap.size, 1, none⟩ = some (.int .i64 f)) (fun _ _ i _ => bs.length - (intOf i).toNat)
  case atStart => exact ⟨0, Nat.zero_le _, rfl, by rw [sumTo_zero], by rw [sumTo_zero], below_alloc1 _ _, by simp [go_sem], by simp [go_sem]⟩
  case round =>
    obtain ⟨k, hk, rfl, rfl, rfl, hB, c0, c1⟩ := hrel
    have hzB := hB.size
    have b1 := sumTo_bd _ bs 1000000 P1.out k hk
    have b2 := sumTo_bd _ bs 1000000 P2.out k hk
    by_cases hlt : k < bs.length
    · have hlt' : (k : Int) < bs.length := by omega
      obtain ⟨b, off, rfl, hbl, hc⟩ := H.out (by omega)
      obtain ⟨g1, g2, g3⟩ := hc k hlt
      clear hc
      rw [← hB.cell (p := ⟨b, _, none⟩) hbl] at g1 g2 g3
      have s1 := sumTo_succ (endF best a) bs k hlt
      have s2 := sumTo_succ (endG best a) bs k hlt
      have m1 := HG.out bs[k] (List.getElem_mem _)
      generalize bs[k] = x at g1 g2 g3 s1 s2 m1
      obtain ⟨lo, hi, kd⟩ := x
      simp only [endF, endG, badR, restR, forR, goodR] at s1 s2
      dsimp only at g1 g2 g3 m1
      obtain ⟨A, rfl⟩ : ∃ A : Nat, a = A := ⟨a.toNat, by omega⟩
      obtain ⟨K, rfl⟩ : ∃ K : Nat, kd = K := ⟨kd.toNat, by omega⟩
      rw [← for_foreign A K (by omega) (by omega), ← good_own A K (by omega) (by omega)] at s1 s2
      have S1 := Lib.hid s1
      have S2 := Lib.hid s2
      clear s1 s2
      have lc := lt_of_cell c0
      obtain ⟨X, hX⟩ : ∃ X, sumTo (endF best A) bs k = X := ⟨_, rfl⟩
      obtain ⟨Y, hY⟩ : ∃ Y, sumTo (endG best A) bs k = Y := ⟨_, rfl⟩
      rw [hX] at b1 S1 ⊢
      rw [hY] at b2 S2 ⊢
      go_wp2_with fail
      go_loopw [12, 13, 14] (fun g o j wi => ∃ n : Nat, n ≤ 8 ∧ g = .bool (goodTo A K n) ∧ o = .bool (forTo A K n) ∧ j = .int .i64 n ∧ wi = wr.alloc (.cells #[.int .i64 lo, .int .i64 hi, .int .i64 K] 57)) (fun _ _ j _ => 8 - (intOf j).toNat)
      case atStart => exact ⟨0, by omega, rfl, rfl, rfl, rfl⟩
      case round =>
        obtain ⟨n, hn, rfl, rfl, rfl, rfl⟩ := hrel
        by_cases hlt8 : n < 8
        · have hlt8' : (n : Int) < 8 := by omega
          have e1 : goodTo A K (n + 1) = (goodTo A K n || (hasK K n && hasK A n)) := rfl
          have e2 : forTo A K (n + 1) = (forTo A K n || (hasK K n && !hasK A n)) := rfl
          have E1 := Lib.hid e1
          have E2 := Lib.hid e2
          clear e1 e2
          generalize goodTo A K n = g at E1 ⊢
          generalize forTo A K n = o at E2 ⊢
          cases h1 : hasK K n <;> cases h2 : hasK A n <;> cases g <;> cases o
          all_goals go_wp2_with (first | (go_at_call_of 52 (Value.int IntKind.i64 (K : Int)); refine (has_at K n _ h1 (by omega) (by omega) _).mono ?_; rintro e w1 ⟨rfl, rfl⟩) | (go_at_call_of 52 (Value.int IntKind.i64 (A : Int)); refine (has_at A n _ h2 (by omega) (by omega) _).mono ?_; rintro e w1 ⟨rfl, rfl⟩))
          all_goals go_roundw
          all_goals first | exact ⟨n + 1, by omega, by rw [E1.out, h1, h2]; rfl, by rw [E2.out, h1, h2]; rfl, by go_num, trivial⟩ | (simp [intOf]; omega)
        · obtain rfl : n = 8 := by omega
          have k0 : (wr.alloc (.cells #[.int .i64 lo, .int .i64 hi, .int .i64 K] 57)).cell? ⟨w.heap.size, 0, none⟩ = some (.int .i64 A) := keep (below_alloc1 _ _) c0
          have k1 : (wr.alloc (.cells #[.int .i64 lo, .int .i64 hi, .int .i64 K] 57)).cell? ⟨w.heap.size, 1, none⟩ = some (.int .i64 f) := keep (below_alloc1 _ _) c1
          have hB2 := hB.trans ((below_alloc1 wr (.cells #[.int .i64 lo, .int .i64 hi, .int .i64 K] 57)).mono hB.size)
          clear c0 c1 hX hY g1 g2 g3
          cases hx : goodTo A K 8 <;> cases hy : forTo A K 8 <;> cases best <;> rw [hx, hy] at S1 S2
          all_goals go_wp2_with fail
          all_goals go_roundw
          all_goals first
            | exact ⟨k + 1, by omega, by go_num, by rw [S1.out]; simp, by rw [S2.out]; simp, hB2, k0, k1⟩
            | (simp [intOf]; omega)
    · obtain rfl : k = bs.length := by omega
      obtain ⟨X, hX⟩ : ∃ X, sumTo (endF best a) bs bs.length = X := ⟨_, rfl⟩
      obtain ⟨Y, hY⟩ : ∃ Y, sumTo (endG best a) bs bs.length = Y := ⟨_, rfl⟩
      rw [hX, hY]
      have HX := Lib.hid hX
      have HY := Lib.hid hY
      clear hX hY b1 b2
      go_wp2_with fail
      go_ret2
      exact ⟨by rw [HX.out, HY.out]; rfl, hB⟩

end Go.Proofs.Ytnombgiacfeloaa
