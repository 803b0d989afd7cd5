/- The walks of the reference's Check, Readings, asked, Wrong, Read, and of the laws' valid and inside. The walks of the laws' valid and the reference's asked. -/
import Derived.Test.YtcncmlpppabbcaaGreatW10
import Derived.Test.YtcncmlpppabbcaaGreatW3
import Derived.Test.YtcncmlpppabbcaaGreatM1
import Derived.BigQuiet
import Derived.Deep.RegionHeld3
import Derived.Deep.DeepCutAuto
namespace Go.Proofs.YtcncmlpppabbcaaGreat
set_option linter.unusedVariables false
set_option linter.unusedSimpArgs false
open Go.RowKit

theorem belT {W w1 w2 : World} {n : Nat} (h1 : Below n W w1) (h2 : Below w1.heap.size w1 w2) (hn : n ≤ W.heap.size := by exact Nat.le_refl _) : Below n W w2 := h1.trans (h2.mono (Nat.le_trans hn h1.size))

def inB (lo hi n : Int) : Bool := decide (lo ≤ n) && decide (n ≤ hi)

set_option maxHeartbeats 2000000 in
theorem readings_err (err : Int) (ss : List Stp) (rs : List Int) (v rv : Value) (w : World) (h : Rd w 4 v (stpRows ss)) (hr : Rd w 1 rv (ints rs)) (hl6 : ss.length ≤ 100) :
    Calls Tryz.prog 9 #[.agg #[.int .i64 err, v], rv] w fun e w' => e = .returned (.int .i64 (rdErr ss rs)) ∧ Below w.heap.size w w' := by
  obtain ⟨a, c, rfl, -, hm, -⟩ := h
  obtain ⟨a', c', rfl, -, hm', hc'⟩ := hr.ints
  have H := Lib.hid hc'
  rw [stpRows_length] at hm ⊢
  clear hc' hr
  have hB := Below.refl w.heap.size w
  go_enter Tryz.func9, Tryz.ntmps9
  by_cases hl : rs.length = ss.length + 1
  · have hl' : ((rs.length : Int) != (ss.length : Int) + 1) = false := by rw [bne_eq_false_iff_eq]; omega
    have e1 : rdErr ss rs = (firstErr rdErr1 rs 0).2 := by unfold rdErr; rw [if_neg (by omega)]
    have E1 := Lib.hid e1
    clear e1 hl
    go_wp2_with fail
    go_loopw [5] (fun i wr => ∃ k : Nat, k ≤ rs.length ∧ i = .int .i64 k ∧ Below w.heap.size w wr ∧ Hid (∀ j (hj : j < k) (hz : j < rs.length), rdErr1 rs[j] = 0)) (fun i _ => rs.length - (intOf i).toNat)
    case atStart => exact ⟨0, Nat.zero_le _, rfl, by (repeat (first | assumption | exact Below.refl _ _ | refine Below.alloc ?_ (by (try simp) <;> omega) _ | refine below_drewN ?_ _ | refine Below.drew ?_ | refine Below.setCell ?_ (by (try simp) <;> omega) _ | refine Below.trans ?_ (Below.mono (by assumption) (by (try simp) <;> omega)))), fun j hj => absurd hj (Nat.not_lt_zero _)⟩
    case round =>
      clear hB
      obtain ⟨k, hk, rfl, hB, A⟩ := hrel
      have hzB := hB.size
      by_cases hlt : k < rs.length
      · have hlt' : (k : Int) < rs.length := by omega
        obtain ⟨b, off, rfl, hb, hc⟩ := H.out (by omega)
        have g1 := hc k hlt
        clear hc
        rw [← hB.cell (p := ⟨b, _, none⟩) hb] at g1
        generalize hx : rs[k] = x at g1
        have HX := Lib.hid hx
        clear hx
        by_cases hx1 : x = -1
        · subst hx1
          go_wp2_with fail
          go_roundw
          case rel =>
            refine ⟨k + 1, by omega, by go_num, by (repeat (first | assumption | exact Below.refl _ _ | refine Below.alloc ?_ (by (try simp) <;> omega) _ | refine below_drewN ?_ _ | refine Below.drew ?_ | refine Below.setCell ?_ (by (try simp) <;> omega) _ | refine Below.trans ?_ (Below.mono (by assumption) (by (try simp) <;> omega)))), fun j hj hz => ?_⟩
            by_cases e : j = k
            · subst e; rw [HX.out]; rfl
            · exact A.out j (by omega) hz
          case measure => simp [intOf]; omega
        · have t1 : (x != -1) = true := by rw [bne_iff_ne]; exact hx1
          have er : rdErr1 x = if !inB 0 1000000 x then 7 else 0 := by
            unfold rdErr1 inB
            rw [anyOut1]
            simp only [hx1, ne_eq, not_false_eq_true, true_and]
          have ER := Lib.hid er
          clear er hx1
          go_wp2_with fail
          refine (grams_any _ _).mono ?_
          rintro e w2 ⟨rfl, rfl⟩
          have ei : (decide (0 ≤ x) && decide (x ≤ 1000000)) = inB 0 1000000 x := rfl
          rw [ei]
          clear ei
          cases h1 : inB 0 1000000 x
          · have e7 : rdErr1 x = 7 := by rw [ER.out, h1]; rfl
            have e8 : rdErr ss rs = 7 := by rw [E1.out, firstErr_hit rdErr1 rs 0 k hlt (by rw [HX.out, e7]; decide) (fun j hj => A.out j hj _), HX.out, e7]
            have E8 := Lib.hid e8
            clear e7 e8
            go_wp2_with fail
            go_ret
            exact ⟨by rw [E8.out] <;> rfl, by (repeat (first | assumption | exact Below.refl _ _ | refine Below.alloc ?_ (by (try simp) <;> omega) _ | refine below_drewN ?_ _ | refine Below.drew ?_ | refine Below.setCell ?_ (by (try simp) <;> omega) _ | refine Below.trans ?_ (Below.mono (by assumption) (by (try simp) <;> omega))))⟩
          · have e7 : rdErr1 x = 0 := by rw [ER.out, h1]; rfl
            have E7 := Lib.hid e7
            clear e7
            go_wp2_with fail
            go_roundw
            case rel =>
              refine ⟨k + 1, by omega, by go_num, by (repeat (first | assumption | exact Below.refl _ _ | refine Below.alloc ?_ (by (try simp) <;> omega) _ | refine below_drewN ?_ _ | refine Below.drew ?_ | refine Below.setCell ?_ (by (try simp) <;> omega) _ | refine Below.trans ?_ (Below.mono (by assumption) (by (try simp) <;> omega)))), fun j hj hz => ?_⟩
              by_cases e : j = k
              · subst e; rw [HX.out]; exact E7.out
              · exact A.out j (by omega) hz
            case measure => simp [intOf]; omega
      · obtain rfl : k = rs.length := by omega
        have e8 : rdErr ss rs = 0 := by rw [E1.out, firstErr_miss rdErr1 rs 0 (fun j hj => A.out j (by omega) hj)]
        have E8 := Lib.hid e8
        clear e8
        go_wp2_with fail
        go_ret
        exact ⟨by rw [E8.out] <;> rfl, hB⟩
  · have hl' : ((rs.length : Int) != (ss.length : Int) + 1) = true := by rw [bne_iff_ne]; omega
    have e1 : rdErr ss rs = 3 := by unfold rdErr; rw [if_pos (by omega)]
    rw [e1]
    clear e1 hl
    go_wp2_with fail
    go_ret
    exact ⟨rfl, by (repeat (first | assumption | exact Below.refl _ _ | refine Below.alloc ?_ (by (try simp) <;> omega) _ | refine below_drewN ?_ _ | refine Below.drew ?_ | refine Below.setCell ?_ (by (try simp) <;> omega) _ | refine Below.trans ?_ (Below.mono (by assumption) (by (try simp) <;> omega))))⟩

set_option maxHeartbeats 4000000 in
theorem refCheck_any (err : Int) (ss : List Stp) (v : Value) (w : World) (h : Rd w 4 v (stpRows ss)) (hs : NamesFit ss) :
    Calls Tryz.prog 8 #[.agg #[.int .i64 err, v]] w fun e w' => e = .returned (.tuple #[.int .i64 (chk err ss).1, .int .i64 (chk err ss).2.1, .int .i64 (chk err ss).2.2]) ∧ Below w.heap.size w w' := by
  obtain ⟨a, c, rfl, -, hm, hr⟩ := h.stps
  have H := Lib.hid hr
  have HS := Lib.hid hs
  clear hr h hs
  have hB := Below.refl w.heap.size w
  have ec : chk err ss = if !inB 0 1000000 err then (1, 0, 7) else if !inB 1 6 ss.length then (2, 0, 3) else if (firstAt (stepErrAt ss) ss.length 0).2 = 0 then (0, 0, 0) else (2, (firstAt (stepErrAt ss) ss.length 0).1, (firstAt (stepErrAt ss) ss.length 0).2) := by
    unfold chk inB
    rw [anyOut1, anyOut1]
  have EC := Lib.hid ec
  clear ec
  go_enter Tryz.func8, Tryz.ntmps8
  go_wp2_with fail
  refine (grams_any _ _).mono ?_
  rintro e w1 ⟨rfl, rfl⟩
  have ei : (decide (0 ≤ err) && decide (err ≤ 1000000)) = inB 0 1000000 err := rfl
  rw [ei]
  clear ei
  cases hf : inB 0 1000000 err
  · go_wp2_with fail
    go_ret3
    exact ⟨by rw [EC.out, hf]; rfl, by (repeat (first | assumption | exact Below.refl _ _ | refine Below.alloc ?_ (by (try simp) <;> omega) _ | refine below_drewN ?_ _ | refine Below.drew ?_ | refine Below.setCell ?_ (by (try simp) <;> omega) _ | refine Below.trans ?_ (Below.mono (by assumption) (by (try simp) <;> omega))))⟩
  · go_wp2_with fail
    refine (in_any _ _ _ _).mono ?_
    rintro e w2 ⟨rfl, rfl⟩
    have ei : (decide (1 ≤ (ss.length : Int)) && decide ((ss.length : Int) ≤ 6)) = inB 1 6 ss.length := rfl
    rw [ei]
    clear ei
    cases hl : inB 1 6 ss.length
    · go_wp2_with fail
      go_ret3
      exact ⟨by rw [EC.out, hf, hl]; rfl, by (repeat (first | assumption | exact Below.refl _ _ | refine Below.alloc ?_ (by (try simp) <;> omega) _ | refine below_drewN ?_ _ | refine Below.drew ?_ | refine Below.setCell ?_ (by (try simp) <;> omega) _ | refine Below.trans ?_ (Below.mono (by assumption) (by (try simp) <;> omega))))⟩
    · have hl6 : ss.length ≤ 6 := by
        unfold inB at hl
        rw [Bool.and_eq_true, decide_eq_true_eq, decide_eq_true_eq] at hl
        omega
      have e1 : chk err ss = if (firstAt (stepErrAt ss) ss.length 0).2 = 0 then (0, 0, 0) else (2, (firstAt (stepErrAt ss) ss.length 0).1, (firstAt (stepErrAt ss) ss.length 0).2) := by rw [EC.out, hf, hl]; rfl
      have E1 := Lib.hid e1
      clear e1 EC hf hl
      go_wp2_with fail
      go_loopw [5] (fun i wr => ∃ k : Nat, k ≤ ss.length ∧ i = .int .i64 k ∧ wr.cell? ⟨w.heap.size, 1, none⟩ = some (.slice a ss.length c) ∧ Below w.heap.size w wr ∧ Hid (∀ j, j < k → stepErrAt ss j = 0)) (fun i _ => ss.length - (intOf i).toNat)
      case atStart => exact ⟨0, Nat.zero_le _, rfl, by simp, by (repeat (first | assumption | exact Below.refl _ _ | refine Below.alloc ?_ (by (try simp) <;> omega) _ | refine below_drewN ?_ _ | refine Below.drew ?_ | refine Below.setCell ?_ (by (try simp) <;> omega) _ | refine Below.trans ?_ (Below.mono (by assumption) (by (try simp) <;> omega)))), fun j hj => absurd hj (Nat.not_lt_zero _)⟩
      case round =>
        clear hB
        obtain ⟨k, hk, rfl, c1, hB, A⟩ := hrel
        have hzB := hB.size
        have hl1 := lt_of_cell c1
        by_cases hlt : k < ss.length
        · have hlt' : (k : Int) < ss.length := by omega
          obtain ⟨b, off, rfl, hb, hc⟩ := H.out (by omega)
          obtain ⟨g1, g2, g3, g4⟩ := hc k hlt
          have HC := Lib.hid hc
          clear hc
          rw [← hB.cell (p := ⟨b, _, none⟩) hb] at g1 g2 g3 g4
          have hn := HS.out ss[k] (List.getElem_mem _)
          have ek : stepErrAt ss k = stepErr (ss.take k) ss[k] := by unfold stepErrAt; rw [List.getElem?_eq_getElem hlt]
          generalize hx : ss[k] = x at g1 g2 g3 g4 hn ek
          have EK := Lib.hid ek
          clear ek hx
          have hit : stepErr (ss.take k) x ≠ 0 → chk err ss = (2, (k : Int), stepErr (ss.take k) x) := fun hq => by
            rw [E1.out, firstAt_hit (stepErrAt ss) ss.length 0 k hlt (by rw [Nat.zero_add, EK.out]; exact hq) (fun j hj => by rw [Nat.zero_add]; exact A.out j hj), Nat.zero_add, EK.out, if_neg hq]
          have HIT := Lib.hid hit
          clear hit
          obtain ⟨wo, rfl⟩ : ∃ wo : World, wo = wr := ⟨_, rfl⟩
          go_wp2_with fail
          refine (refName_any x.name _ hn).mono ?_
          rintro e w2 ⟨rfl, rfl⟩
          cases hq1 : nameOk x.name
          · have e6 : stepErr (ss.take k) x = 6 := by unfold stepErr; rw [hq1]; rfl
            have hh := HIT.out (by rw [e6]; decide)
            rw [e6] at hh
            have HH := Lib.hid hh
            clear hh e6 hq1
            go_wp2_with fail
            go_ret3
            exact ⟨by rw [HH.out] <;> rfl, by (repeat (first | assumption | exact Below.refl _ _ | refine Below.alloc ?_ (by (try simp) <;> omega) _ | refine below_drewN ?_ _ | refine Below.drew ?_ | refine Below.setCell ?_ (by (try simp) <;> omega) _ | refine Below.trans ?_ (Below.mono (by assumption) (by (try simp) <;> omega))))⟩
          · obtain ⟨W1, hW1⟩ : ∃ W1, wo.alloc (.cells #[.string x.name, .int .i64 x.lo, .int .i64 x.hi, .int .i64 x.err] 41) = W1 := ⟨_, rfl⟩
            have x0 : W1.cell? ⟨wo.heap.size, 0, none⟩ = some (.string x.name) := by rw [← hW1]; simp [go_sem]
            have x1 : W1.cell? ⟨wo.heap.size, 1, none⟩ = some (.int .i64 x.lo) := by rw [← hW1]; simp [go_sem]
            have x2 : W1.cell? ⟨wo.heap.size, 2, none⟩ = some (.int .i64 x.hi) := by rw [← hW1]; simp [go_sem]
            have x3 : W1.cell? ⟨wo.heap.size, 3, none⟩ = some (.int .i64 x.err) := by rw [← hW1]; simp [go_sem]
            have hb1 : Below wo.heap.size wo W1 := by rw [← hW1]; exact below_alloc1 _ _
            replace c1 := keep hb1 c1
            replace hB := belT hB hb1
            rw [hW1]
            clear g1 g2 g3 g4 hW1 hb1 hzB
            have es := fun (h0 : (ss.take k).any (fun y => eqN y.name x.name) = false) => show stepErr (ss.take k) x = if !inB 0 1000000 x.lo || !inB 0 1000000 x.hi || !inB 0 1000000 x.err then 7 else if x.hi < x.lo then 2 else 0 by
              unfold stepErr inB
              rw [hq1, h0, anyOut3]
              rfl
            have ed := fun (h0 : (ss.take k).any (fun y => eqN y.name x.name) = true) => show stepErr (ss.take k) x = 5 by
              unfold stepErr
              rw [hq1, h0]
              rfl
            have ES := Lib.hid es
            have ED := Lib.hid ed
            clear es ed hq1
            have hkl : k ≤ ss.length := hk
            go_wp2_with fail
            go_loopw [7] (fun i wr => ∃ n : Nat, n ≤ k ∧ i = .int .i64 n ∧ Below W1.heap.size W1 wr ∧ Hid (∀ j, j < n → ∀ h : j < ss.length, eqN ss[j].name x.name = false)) (fun i _ => k - (intOf i).toNat)
            case atStart => exact ⟨0, Nat.zero_le _, rfl, Below.refl _ _, fun j hj => absurd hj (Nat.not_lt_zero _)⟩
            case round =>
              obtain ⟨n, hn', rfl, hW, A2⟩ := hrel
              replace c1 := keep hW c1
              replace x0 := keep hW x0
              replace x1 := keep hW x1
              replace x2 := keep hW x2
              replace x3 := keep hW x3
              replace hB := belT hB hW
              by_cases hnk : n < k
              · have hnk' : (n : Int) < k := by omega
                have hns : (n : Int) < ss.length := by omega
                have hnn : n < ss.length := by omega
                obtain ⟨g1, -, -, -⟩ := HC.out n hnn
                rw [← hB.cell (p := ⟨b, _, none⟩) hb] at g1
                generalize hy : ss[n] = y at g1
                have HY := Lib.hid hy
                clear hy
                obtain ⟨wz, rfl⟩ : ∃ wz : World, wz = wr := ⟨_, rfl⟩
                cases hq : eqN y.name x.name
                · have hq' : (y.name.toList == x.name.toList) = false := hq
                  have HQ := Lib.hid hq
                  clear hq
                  go_wp2_with fail
                  go_quiet (fail)
                  go_wp2_with fail
                  go_roundw
                  case rel =>
                    refine ⟨n + 1, by omega, by go_num, belT hW (below_drewN (Below.refl _ _) _), fun j hj hz => ?_⟩
                    by_cases e : j = n
                    · subst e; rw [HY.out]; exact HQ.out
                    · exact A2.out j (by omega) hz
                  case measure => simp [intOf]; omega
                · have hq' : (y.name.toList == x.name.toList) = true := hq
                  have han : (ss.take k).any (fun y => eqN y.name x.name) = true := by
                    rw [List.any_eq_true]
                    refine ⟨ss[n], ?_, by rw [HY.out]; exact hq⟩
                    rw [List.mem_take_iff_getElem]
                    exact ⟨n, by omega, rfl⟩
                  have e5 := ED.out han
                  have hh := HIT.out (by rw [e5]; decide)
                  rw [e5] at hh
                  have HH := Lib.hid hh
                  clear hh e5 han hq
                  go_wp2_with fail
                  go_quiet (fail)
                  go_wp2_with fail
                  go_ret3
                  exact ⟨by rw [HH.out] <;> rfl, belT hB (below_drewN (Below.refl _ _) _)⟩
              · obtain rfl : n = k := by omega
                have han : (ss.take n).any (fun y => eqN y.name x.name) = false := by
                  rw [List.any_eq_false]
                  intro y hy
                  rw [List.mem_take_iff_getElem] at hy
                  obtain ⟨j, hj, rfl⟩ := hy
                  rw [A2.out j (by omega) (by omega)]
                  exact Bool.false_ne_true
                have es := ES.out han
                have BE := Lib.hid es
                clear es han ES ED A2
                go_wp2_with fail
                refine (grams_any _ _).mono ?_
                rintro e w2 ⟨rfl, rfl⟩
                have ei : (decide (0 ≤ x.lo) && decide (x.lo ≤ 1000000)) = inB 0 1000000 x.lo := rfl
                rw [ei]
                clear ei
                cases h1 : inB 0 1000000 x.lo
                · have e7 : stepErr (ss.take n) x = 7 := by rw [BE.out, h1]; rfl
                  have hh := HIT.out (by rw [e7]; decide)
                  rw [e7] at hh
                  have HH := Lib.hid hh
                  clear hh e7
                  go_wp2_with fail
                  go_ret3
                  exact ⟨by rw [HH.out] <;> rfl, hB⟩
                · go_wp2_with fail
                  refine (grams_any _ _).mono ?_
                  rintro e w2 ⟨rfl, rfl⟩
                  have ei : (decide (0 ≤ x.hi) && decide (x.hi ≤ 1000000)) = inB 0 1000000 x.hi := rfl
                  rw [ei]
                  clear ei
                  cases h2 : inB 0 1000000 x.hi
                  · have e7 : stepErr (ss.take n) x = 7 := by rw [BE.out, h1, h2]; rfl
                    have hh := HIT.out (by rw [e7]; decide)
                    rw [e7] at hh
                    have HH := Lib.hid hh
                    clear hh e7
                    go_wp2_with fail
                    go_ret3
                    exact ⟨by rw [HH.out] <;> rfl, hB⟩
                  · go_wp2_with fail
                    refine (grams_any _ _).mono ?_
                    rintro e w2 ⟨rfl, rfl⟩
                    have ei : (decide (0 ≤ x.err) && decide (x.err ≤ 1000000)) = inB 0 1000000 x.err := rfl
                    rw [ei]
                    clear ei
                    cases h3 : inB 0 1000000 x.err
                    · have e7 : stepErr (ss.take n) x = 7 := by rw [BE.out, h1, h2, h3]; rfl
                      have hh := HIT.out (by rw [e7]; decide)
                      rw [e7] at hh
                      have HH := Lib.hid hh
                      clear hh e7
                      go_wp2_with fail
                      go_ret3
                      exact ⟨by rw [HH.out] <;> rfl, hB⟩
                    · by_cases h4 : x.hi < x.lo
                      · have e7 : stepErr (ss.take n) x = 2 := by rw [BE.out, h1, h2, h3]; simp [h4]
                        have hh := HIT.out (by rw [e7]; decide)
                        rw [e7] at hh
                        have HH := Lib.hid hh
                        clear hh e7
                        go_wp2_with fail
                        go_ret3
                        exact ⟨by rw [HH.out] <;> rfl, hB⟩
                      · have h4' : x.lo ≤ x.hi := by omega
                        have e7 : stepErr (ss.take n) x = 0 := by rw [BE.out, h1, h2, h3]; simp [h4]
                        have E7 := Lib.hid e7
                        clear e7
                        go_wp2_with fail
                        go_roundw
                        case rel =>
                          refine ⟨n + 1, by omega, by go_num, c1, hB, fun j hj => ?_⟩
                          by_cases e : j = n
                          · subst e; rw [EK.out]; exact E7.out
                          · exact A.out j (by omega)
                        case measure => simp [intOf]; omega
        · obtain rfl : k = ss.length := by omega
          have e8 : chk err ss = (0, 0, 0) := by rw [E1.out, firstAt_miss (stepErrAt ss) ss.length 0 (fun j hj => by rw [Nat.zero_add]; exact A.out j hj)]; rfl
          have E8 := Lib.hid e8
          clear e8
          go_wp2_with fail
          go_ret3
          exact ⟨by rw [E8.out] <;> rfl, hB⟩

end Go.Proofs.YtcncmlpppabbcaaGreat
