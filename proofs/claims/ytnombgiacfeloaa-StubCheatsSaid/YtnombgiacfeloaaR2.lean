/- The walks of the reference's Bags and Fits. -/
import Derived.Test.YtnombgiacfeloaaR1
import Derived.Test.YtnombgiacfeloaaW3
namespace Go.Proofs.Ytnombgiacfeloaa
set_option linter.unusedVariables false
set_option linter.unusedSimpArgs false
open Go.RowKit

def inB (lo hi n : Int) : Bool := decide (lo ≤ n) && decide (n ≤ hi)

theorem bagErr_eq (x : Bag) : bagErr x = if !inB 0 1000000 x.lo || !inB 0 1000000 x.hi || anyOut 1 255 [x.kinds] then 7 else if x.hi < x.lo then 2 else 0 := by
  unfold bagErr inB
  rw [anyOut2]

set_option maxHeartbeats 1000000 in
theorem refBags_any (a f : Int) (v : Value) (bs : List Bag) (w : World) (h : Rd w 3 v (bagRows bs)) :
    Calls Try.prog 45 #[.agg #[.int .i64 a, .int .i64 f], v] w fun e w' => e = .returned (.int .i64 (beginErr a f bs)) ∧ Below w.heap.size w w' := by
  obtain ⟨sa, c, rfl, -, hm, hr⟩ := h.bags
  have H := Lib.hid hr
  clear hr h
  have hB := Below.refl w.heap.size w
  have eb : beginErr a f bs = if anyOut 1 255 [a] || !inB 0 1000 f then 7 else if 10 < bs.length then 3 else (firstErr bagErr bs 0).2 := by
    unfold beginErr inB
    rw [anyOut1 0 1000 f]
  have EB := Lib.hid eb
  clear eb
  go_enter Try.func45, Try.ntmps45
  go_wp2_with fail
  refine (kinds_any a _).mono ?_
  rintro e w1 ⟨rfl, rfl⟩
  cases hk : anyOut 1 255 [a]
  · go_wp2_with fail
    refine (in_any _ _ _ _).mono ?_
    rintro e w2 ⟨rfl, rfl⟩
    have ei : (decide (0 ≤ f) && decide (f ≤ 1000)) = inB 0 1000 f := rfl
    rw [ei]
    clear ei
    cases hf : inB 0 1000 f
    · go_wp2_with fail
      go_ret
      exact ⟨by rw [EB.out, hk, hf]; rfl, by (repeat (first | assumption | exact Below.refl _ _ | refine Below.alloc ?_ (by (try simp) <;> omega) _ | refine below_drewN ?_ _ | refine Below.drew ?_ | refine Below.setCell ?_ (by (try simp) <;> omega) _ | refine Below.trans ?_ (Below.mono (by assumption) (by (try simp) <;> omega))))⟩
    · by_cases hl : 10 < bs.length
      · have hl' : (10 : Int) < bs.length := by omega
        go_wp2_with fail
        go_ret
        exact ⟨by rw [EB.out, hk, hf, if_neg (by simp), if_pos hl]; rfl, by (repeat (first | assumption | exact Below.refl _ _ | refine Below.alloc ?_ (by (try simp) <;> omega) _ | refine below_drewN ?_ _ | refine Below.drew ?_ | refine Below.setCell ?_ (by (try simp) <;> omega) _ | refine Below.trans ?_ (Below.mono (by assumption) (by (try simp) <;> omega))))⟩
      · have hl' : (bs.length : Int) ≤ 10 := by omega
        have e1 : beginErr a f bs = (firstErr bagErr bs 0).2 := by rw [EB.out, hk, hf, if_neg (by simp), if_neg hl]
        have E1 := Lib.hid e1
        clear e1 EB hk hf
        go_wp2_with fail
        go_loopw [5] (fun i wr => ∃ k : Nat, k ≤ bs.length ∧ i = .int .i64 k ∧ Below w.heap.size w wr ∧ Hid (∀ j (hj : j < k) (hz : j < bs.length), bagErr bs[j] = 0)) (fun i _ => bs.length - (intOf i).toNat)
        case atStart => exact ⟨0, Nat.zero_le _, rfl, by (repeat (first | assumption | exact Below.refl _ _ | refine Below.alloc ?_ (by (try simp) <;> omega) _ | refine below_drewN ?_ _ | refine Below.drew ?_ | refine Below.setCell ?_ (by (try simp) <;> omega) _ | refine Below.trans ?_ (Below.mono (by assumption) (by (try simp) <;> omega)))), fun j hj => absurd hj (Nat.not_lt_zero _)⟩
        case round =>
          clear hB
          obtain ⟨k, hk, rfl, hB, A⟩ := hrel
          have hzB := hB.size
          by_cases hlt : k < bs.length
          · have hlt' : (k : Int) < bs.length := by omega
            obtain ⟨b, off, rfl, hb, hc⟩ := H.out (by omega)
            obtain ⟨g1, g2, g3⟩ := hc k hlt
            clear hc
            rw [← hB.cell (p := ⟨b, _, none⟩) hb] at g1 g2 g3
            generalize hx : bs[k] = x at g1 g2 g3
            have HX := Lib.hid hx
            clear hx
            have hit : bagErr x ≠ 0 → beginErr a f bs = bagErr x := fun hq => by
              rw [E1.out, firstErr_hit bagErr bs 0 k hlt (by rw [HX.out]; exact hq) (fun j hj => A.out j hj _), HX.out]
            have HIT := Lib.hid hit
            clear hit
            have be := bagErr_eq x
            have BE := Lib.hid be
            clear be
            go_wp2_with fail
            refine (grams_any _ _).mono ?_
            rintro e w2 ⟨rfl, rfl⟩
            have ei : (decide (0 ≤ x.lo) && decide (x.lo ≤ 1000000)) = inB 0 1000000 x.lo := rfl
            rw [ei]
            clear ei
            cases h1 : inB 0 1000000 x.lo
            · have e7 : bagErr x = 7 := by rw [BE.out, h1]; simp
              go_wp2_with fail
              go_ret
              exact ⟨by rw [HIT.out (by omega), e7]; rfl, by (repeat (first | assumption | exact Below.refl _ _ | refine Below.alloc ?_ (by (try simp) <;> omega) _ | refine below_drewN ?_ _ | refine Below.drew ?_ | refine Below.setCell ?_ (by (try simp) <;> omega) _ | refine Below.trans ?_ (Below.mono (by assumption) (by (try simp) <;> omega))))⟩
            · go_wp2_with fail
              refine (grams_any _ _).mono ?_
              rintro e w2 ⟨rfl, rfl⟩
              have ei : (decide (0 ≤ x.hi) && decide (x.hi ≤ 1000000)) = inB 0 1000000 x.hi := rfl
              rw [ei]
              clear ei
              cases h2 : inB 0 1000000 x.hi
              · have e7 : bagErr x = 7 := by rw [BE.out, h1, h2]; simp
                go_wp2_with fail
                go_ret
                exact ⟨by rw [HIT.out (by omega), e7]; rfl, by (repeat (first | assumption | exact Below.refl _ _ | refine Below.alloc ?_ (by (try simp) <;> omega) _ | refine below_drewN ?_ _ | refine Below.drew ?_ | refine Below.setCell ?_ (by (try simp) <;> omega) _ | refine Below.trans ?_ (Below.mono (by assumption) (by (try simp) <;> omega))))⟩
              · go_wp2_with fail
                refine (kinds_any _ _).mono ?_
                rintro e w2 ⟨rfl, rfl⟩
                cases h3 : anyOut 1 255 [x.kinds]
                · by_cases h4 : x.hi < x.lo
                  · have e7 : bagErr x = 2 := by rw [BE.out, h1, h2, h3]; simp [h4]
                    go_wp2_with fail
                    go_ret
                    exact ⟨by rw [HIT.out (by omega), e7]; rfl, by (repeat (first | assumption | exact Below.refl _ _ | refine Below.alloc ?_ (by (try simp) <;> omega) _ | refine below_drewN ?_ _ | refine Below.drew ?_ | refine Below.setCell ?_ (by (try simp) <;> omega) _ | refine Below.trans ?_ (Below.mono (by assumption) (by (try simp) <;> omega))))⟩
                  · have h4' : x.lo ≤ x.hi := by omega
                    have e7 : bagErr x = 0 := by rw [BE.out, h1, h2, h3]; simp [h4]
                    go_wp2_with fail
                    go_roundw
                    case rel =>
                      refine ⟨k + 1, by omega, by go_num, by (repeat (first | assumption | exact Below.refl _ _ | refine Below.alloc ?_ (by (try simp) <;> omega) _ | refine below_drewN ?_ _ | refine Below.drew ?_ | refine Below.setCell ?_ (by (try simp) <;> omega) _ | refine Below.trans ?_ (Below.mono (by assumption) (by (try simp) <;> omega)))), fun j hj hz => ?_⟩
                      by_cases e : j = k
                      · subst e; rw [HX.out]; exact e7
                      · exact A.out j (by omega) hz
                    case measure => simp [intOf]; omega
                · have e7 : bagErr x = 7 := by rw [BE.out, h1, h2, h3]; simp
                  go_wp2_with fail
                  go_ret
                  exact ⟨by rw [HIT.out (by omega), e7]; rfl, by (repeat (first | assumption | exact Below.refl _ _ | refine Below.alloc ?_ (by (try simp) <;> omega) _ | refine below_drewN ?_ _ | refine Below.drew ?_ | refine Below.setCell ?_ (by (try simp) <;> omega) _ | refine Below.trans ?_ (Below.mono (by assumption) (by (try simp) <;> omega))))⟩
          · obtain rfl : k = bs.length := by omega
            go_wp2_with fail
            go_ret
            exact ⟨by rw [E1.out, firstErr_miss bagErr bs 0 (fun j hj => A.out j (by omega) hj)]; rfl, hB⟩
  · go_wp2_with fail
    go_ret
    exact ⟨by rw [EB.out, hk]; rfl, by (repeat (first | assumption | exact Below.refl _ _ | refine Below.alloc ?_ (by (try simp) <;> omega) _ | refine below_drewN ?_ _ | refine Below.drew ?_ | refine Below.setCell ?_ (by (try simp) <;> omega) _ | refine Below.trans ?_ (Below.mono (by assumption) (by (try simp) <;> omega))))⟩

end Go.Proofs.Ytnombgiacfeloaa
