/- The walks of the mould's reference's Ints and Spans (R6 and R7, turned). -/
import Derived.Test.YtcncmlpppabbcaaGreatD2
import Derived.BigRegion
namespace Go.Proofs.YtcncmlpppabbcaaGreat
set_option linter.unusedVariables false
set_option linter.unusedSimpArgs false
open Go.RowKit

set_option maxHeartbeats 400000 in
theorem ints5_any (v u : Value) (xs ys : List Int) (w : World) (h : Rd w 1 v (ints xs)) (h' : Rd w 1 u (ints ys)) :
    Calls Tryz.prog 31 #[v, u] w fun e w' => e = .returned (.bool (decide (xs = ys))) ∧ Below w.heap.size w w' := by
  obtain ⟨a, c, rfl, -, hm, hr⟩ := h.ints
  obtain ⟨a', c', rfl, -, hm', hr'⟩ := h'.ints
  have H := Lib.hid hr
  have H' := Lib.hid hr'
  clear hr hr' h h'
  go_enter Tryz.func31, Tryz.ntmps31
  by_cases hl : xs.length = ys.length
  · have hl' : ((xs.length : Int) != (ys.length : Int)) = false := by rw [bne_eq_false_iff_eq]; omega
    have HL := Lib.hid hl
    go_wp2_with fail
    go_loopw [5] (fun i wr => ∃ k : Nat, k ≤ xs.length ∧ i = .int .i64 k ∧ Below w.heap.size w wr ∧ Hid (∀ j (hj : j < k) (h1 : j < xs.length) (h2 : j < ys.length), xs[j] = ys[j])) (fun i _ => xs.length - (intOf i).toNat)
    case atStart => exact ⟨0, Nat.zero_le _, rfl, Below.refl _ _, fun j hj => absurd hj (Nat.not_lt_zero _)⟩
    case round =>
      obtain ⟨k, hk, rfl, hB, A⟩ := hrel
      have hzB := hB.size
      by_cases hlt : k < xs.length
      · have hlt' : (k : Int) < xs.length := by omega
        have hlt2 : (k : Int) < ys.length := by omega
        obtain ⟨b, off, rfl, hb, hc⟩ := H.out (by omega)
        obtain ⟨b', off', rfl, hb', hc'⟩ := H'.out (by omega)
        have g1 := hc k hlt
        have hk2 : k < ys.length := by omega
        have g2 := hc' k hk2
        clear hc hc'
        rw [← hB.cell (p := ⟨b, _, none⟩) hb] at g1
        rw [← hB.cell (p := ⟨b', _, none⟩) hb'] at g2
        obtain ⟨x, hx⟩ : ∃ x, xs[k] = x := ⟨_, rfl⟩
        obtain ⟨y, hy⟩ : ∃ y, ys[k] = y := ⟨_, rfl⟩
        rw [hx] at g1
        rw [hy] at g2
        have HX := Lib.hid hx
        have HY := Lib.hid hy
        clear hx hy hl
        by_cases hq : x = y
        · subst hq
          go_wp2_with fail
          go_region
          all_goals go_wp2_with fail
          all_goals go_roundw
          case rel =>
            refine ⟨k + 1, by omega, by go_num, hB.drew, fun j hj h1 h2 => ?_⟩
            by_cases e : j = k
            · subst e; rw [HX.out, HY.out]
            · exact A.out j (by omega) h1 h2
          case measure => simp [intOf]; omega
        · have t1 : (x != y) = true := by rw [bne_iff_ne]; exact hq
          have hne : decide (xs = ys) = false := by
            rw [decide_eq_false_iff_not]
            intro e
            subst e
            exact hq (HX.out.symm.trans HY.out)
          have HNE := Lib.hid hne
          clear hne
          go_wp2_with fail
          go_region
          all_goals go_wp2_with fail
          go_ret
          exact ⟨ret_bool HNE.out.symm, by (repeat (first | assumption | exact Below.refl _ _ | refine Below.alloc ?_ (by (try simp) <;> omega) _ | refine below_drewN ?_ _ | refine Below.drew ?_ | refine Below.setCell ?_ (by (try simp) <;> omega) _ | refine Below.trans ?_ (Below.mono (by assumption) (by (try simp) <;> omega))))⟩
      · obtain rfl : k = xs.length := by omega
        have he : decide (xs = ys) = true := by
          rw [decide_eq_true_eq]
          exact List.ext_getElem HL.out fun j h1 h2 => A.out j h1 h1 h2
        have HE := Lib.hid he
        clear he
        go_wp2_with fail
        go_ret
        exact ⟨ret_bool HE.out.symm, hB⟩
  · have hl' : ((xs.length : Int) != (ys.length : Int)) = true := by rw [bne_iff_ne]; omega
    go_wp2_with fail
    go_ret
    exact ⟨ret_bool (by symm; rw [decide_eq_false_iff_not]; intro e; exact hl (by rw [e])), Below.refl _ _⟩

set_option maxHeartbeats 400000 in
theorem spans5_any (v u : Value) (xs ys : List (Int × Int)) (w : World) (h : Rd w 2 v (spanRows xs)) (h' : Rd w 2 u (spanRows ys)) :
    Calls Tryz.prog 32 #[v, u] w fun e w' => e = .returned (.bool (decide (xs = ys))) ∧ Below w.heap.size w w' := by
  obtain ⟨a, c, rfl, -, hm, hr⟩ := h.spans
  obtain ⟨a', c', rfl, -, hm', hr'⟩ := h'.spans
  have H := Lib.hid hr
  have H' := Lib.hid hr'
  clear hr hr' h h'
  go_enter Tryz.func32, Tryz.ntmps32
  by_cases hl : xs.length = ys.length
  · have hl' : ((xs.length : Int) != (ys.length : Int)) = false := by rw [bne_eq_false_iff_eq]; omega
    have HL := Lib.hid hl
    go_wp2_with fail
    go_loopw [5] (fun i wr => ∃ k : Nat, k ≤ xs.length ∧ i = .int .i64 k ∧ Below w.heap.size w wr ∧ Hid (∀ j (hj : j < k) (h1 : j < xs.length) (h2 : j < ys.length), xs[j] = ys[j])) (fun i _ => xs.length - (intOf i).toNat)
    case atStart => exact ⟨0, Nat.zero_le _, rfl, Below.refl _ _, fun j hj => absurd hj (Nat.not_lt_zero _)⟩
    case round =>
      obtain ⟨k, hk, rfl, hB, A⟩ := hrel
      have hzB := hB.size
      by_cases hlt : k < xs.length
      · have hlt' : (k : Int) < xs.length := by omega
        have hlt2 : (k : Int) < ys.length := by omega
        obtain ⟨b, off, rfl, hb, hc⟩ := H.out (by omega)
        obtain ⟨b', off', rfl, hb', hc'⟩ := H'.out (by omega)
        have hk2 : k < ys.length := by omega
        obtain ⟨g1, g3⟩ := hc k hlt
        obtain ⟨g2, g4⟩ := hc' k hk2
        clear hc hc'
        rw [← hB.cell (p := ⟨b, _, none⟩) hb] at g1 g3
        rw [← hB.cell (p := ⟨b', _, none⟩) hb'] at g2 g4
        obtain ⟨x, hx⟩ : ∃ x, xs[k] = x := ⟨_, rfl⟩
        obtain ⟨y, hy⟩ : ∃ y, ys[k] = y := ⟨_, rfl⟩
        rw [hx] at g1 g3
        rw [hy] at g2 g4
        have HX := Lib.hid hx
        have HY := Lib.hid hy
        clear hx hy hl
        obtain ⟨x1, x2⟩ := x
        obtain ⟨y1, y2⟩ := y
        dsimp only at g1 g2 g3 g4
        by_cases hq : (x1, x2) = (y1, y2)
        · obtain ⟨rfl, rfl⟩ : x1 = y1 ∧ x2 = y2 := by simpa using hq
          clear hq
          go_wp2_with fail
          go_region
          all_goals go_wp2_with fail
          all_goals go_roundw
          case rel =>
            refine ⟨k + 1, by omega, by go_num, hB.drew, fun j hj h1 h2 => ?_⟩
            by_cases e : j = k
            · subst e; rw [HX.out, HY.out]
            · exact A.out j (by omega) h1 h2
          case measure => simp [intOf]; omega
        · have hne : decide (xs = ys) = false := by
            rw [decide_eq_false_iff_not]
            intro e
            subst e
            exact hq (HX.out.symm.trans HY.out)
          have HNE := Lib.hid hne
          by_cases e1 : x1 = y1
          · subst e1
            have e2 : ¬ x2 = y2 := by simpa using hq
            clear hne hq
            go_wp2_with fail
            go_region
            all_goals go_wp2_with fail
            go_ret
            exact ⟨ret_bool HNE.out.symm, by (repeat (first | assumption | exact Below.refl _ _ | refine Below.alloc ?_ (by (try simp) <;> omega) _ | refine below_drewN ?_ _ | refine Below.drew ?_ | refine Below.setCell ?_ (by (try simp) <;> omega) _ | refine Below.trans ?_ (Below.mono (by assumption) (by (try simp) <;> omega))))⟩
          · clear hne hq
            go_wp2_with fail
            go_region
            all_goals go_wp2_with fail
            go_ret
            exact ⟨ret_bool HNE.out.symm, by (repeat (first | assumption | exact Below.refl _ _ | refine Below.alloc ?_ (by (try simp) <;> omega) _ | refine below_drewN ?_ _ | refine Below.drew ?_ | refine Below.setCell ?_ (by (try simp) <;> omega) _ | refine Below.trans ?_ (Below.mono (by assumption) (by (try simp) <;> omega))))⟩
      · obtain rfl : k = xs.length := by omega
        have he : decide (xs = ys) = true := by
          rw [decide_eq_true_eq]
          exact List.ext_getElem HL.out fun j h1 h2 => A.out j h1 h1 h2
        have HE := Lib.hid he
        clear he
        go_wp2_with fail
        go_ret
        exact ⟨ret_bool HE.out.symm, hB⟩
  · have hl' : ((xs.length : Int) != (ys.length : Int)) = true := by rw [bne_iff_ne]; omega
    go_wp2_with fail
    go_ret
    exact ⟨ret_bool (by symm; rw [decide_eq_false_iff_not]; intro e; exact hl (by rw [e])), Below.refl _ _⟩

end Go.Proofs.YtcncmlpppabbcaaGreat
