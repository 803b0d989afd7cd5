/- The walks of the reference's Check, Readings, asked, Wrong, Read, and of the laws' valid and inside. The walks of the laws' valid and the reference's asked. -/
import Derived.Test.YtnombgiacfeloaaW10
import Derived.Test.YtnombgiacfeloaaW8
import Derived.Test.YtnombgiacfeloaaR2
import Derived.Test.YtnombgiacfeloaaM1
import Derived.BigQuiet
import Derived.Deep.RegionHeld3
import Derived.Deep.DeepCutAuto
namespace Go.Proofs.Ytnombgiacfeloaa
set_option linter.unusedVariables false
set_option linter.unusedSimpArgs false
open Go.RowKit

theorem belT {W w1 w2 : World} {n : Nat} (h1 : Below n W w1) (h2 : Below w1.heap.size w1 w2) (hn : n ≤ W.heap.size := by exact Nat.le_refl _) : Below n W w2 := h1.trans (h2.mono (Nat.le_trans hn h1.size))

set_option maxHeartbeats 400000 in
theorem inside_any (n a b : Int) (w : World) : Calls Try.prog 41 #[.int .i64 n, .agg #[.int .i64 a, .int .i64 b]] w fun e w' => e = .returned (.bool (inB a b n)) ∧ Below w.heap.size w w' := by
  unfold inB
  go_enter Try.func41, Try.ntmps41
  by_cases h1 : a ≤ n
  · have e1 : decide (a ≤ n) = true := decide_eq_true h1
    rw [e1]
    go_wp2_with fail
    go_ret
    exact ⟨ret_bool (by simp), by (repeat (first | assumption | exact Below.refl _ _ | refine Below.alloc ?_ (by (try simp) <;> omega) _ | refine below_drewN ?_ _ | refine Below.drew ?_ | refine Below.setCell ?_ (by (try simp) <;> omega) _ | refine Below.trans ?_ (Below.mono (by assumption) (by (try simp) <;> omega))))⟩
  · have e1 : decide (a ≤ n) = false := decide_eq_false h1
    rw [e1]
    have h1' : n < a := by omega
    go_wp2_with fail
    go_ret
    exact ⟨ret_bool (by simp), by (repeat (first | assumption | exact Below.refl _ _ | refine Below.alloc ?_ (by (try simp) <;> omega) _ | refine below_drewN ?_ _ | refine Below.drew ?_ | refine Below.setCell ?_ (by (try simp) <;> omega) _ | refine Below.trans ?_ (Below.mono (by assumption) (by (try simp) <;> omega))))⟩

set_option maxHeartbeats 1000000 in
theorem wrong_any (err : Int) (ss : List Stp) (v : Value) (p : Nat) (w : World) (h : Rd w 4 v (stpRows ss)) (hp : p ≤ ss.length) :
    Calls Try.prog 86 #[.agg #[.int .i64 err, v], .int .i64 p] w fun e w' => e = .returned (.int .i64 (wrongAt err ss p)) ∧ Below w.heap.size w w' := by
  obtain ⟨a, c, rfl, -, hm, hr⟩ := h.stps
  cases p with
  | zero =>
    clear hr h
    go_enter Try.func86, Try.ntmps86
    go_wp2_with fail
    go_ret
    exact ⟨rfl, by (repeat (first | assumption | exact Below.refl _ _ | refine Below.alloc ?_ (by (try simp) <;> omega) _ | refine below_drewN ?_ _ | refine Below.drew ?_ | refine Below.setCell ?_ (by (try simp) <;> omega) _ | refine Below.trans ?_ (Below.mono (by assumption) (by (try simp) <;> omega))))⟩
  | succ p =>
    obtain ⟨b, off, rfl, hb, hc⟩ := hr (by omega)
    obtain ⟨g1, g2, g3, g4⟩ := hc p (by omega)
    have hq : wrongAt err ss (p + 1) = ss[p].err := by
      rw [show wrongAt err ss (p + 1) = (match ss[p]? with | some x => x.err | none => 0) from rfl, List.getElem?_eq_getElem (by omega)]
    rw [hq]
    generalize ss[p] = x at g4 ⊢
    have t1 : (((p + 1 : Nat) : Int) == 0) = false := by rw [beq_eq_false_iff_ne]; omega
    have t2 : ((p + 1 : Nat) : Int) - 1 = p := by omega
    have t3 : (p : Int) < ss.length := by omega
    have hbd := below_alloc1 w (.cells #[.int .i64 err, .slice (some ⟨b, off, none⟩) ss.length c] 24)
    replace g4 := keep hbd g4
    clear hc hr h g1 g2 g3 hq hbd hp
    go_enter Try.func86, Try.ntmps86
    go_wp2_with fail
    go_ret
    exact ⟨rfl, by (repeat (first | assumption | exact Below.refl _ _ | refine Below.alloc ?_ (by (try simp) <;> omega) _ | refine below_drewN ?_ _ | refine Below.drew ?_ | refine Below.setCell ?_ (by (try simp) <;> omega) _ | refine Below.trans ?_ (Below.mono (by assumption) (by (try simp) <;> omega))))⟩

set_option maxHeartbeats 1000000 in
theorem read_any (err : Int) (ss : List Stp) (rs : List Int) (v rv : Value) (p : Nat) (w : World) (h : Rd w 4 v (stpRows ss)) (hr : Rd w 1 rv (ints rs)) (hL : LineOk err ss) (hR : ReadOk ss rs) (hp : p < rs.length) :
    Calls Try.prog 44 #[.agg #[.int .i64 err, v], rv, .int .i64 p] w fun e w' => e = .returned (.agg #[.int .i64 (loAt err ss rs p), .int .i64 (hiAt err ss rs p)]) ∧ Below w.heap.size w w' := by
  obtain ⟨a', c', rfl, -, hm', hc'⟩ := hr.ints
  obtain ⟨b', off', rfl, hb', hc'⟩ := hc' (by omega)
  have r0 := hc' p hp
  have hps : p ≤ ss.length := by have := hR.len; omega
  have hrd := hR.rd rs[p] (List.getElem_mem _)
  have hlo : loAt err ss rs p = rdLo rs[p] (wrongAt err ss p) := by unfold loAt; rw [List.getElem?_eq_getElem hp]; rfl
  have hhi : hiAt err ss rs p = rdHi rs[p] (wrongAt err ss p) := by unfold hiAt; rw [List.getElem?_eq_getElem hp]; rfl
  have hw := wrong_bd hL p
  have hpl : (p : Int) < rs.length := by omega
  rw [hlo, hhi]
  have WA := fun w' (h : Rd w' 4 v (stpRows ss)) => wrong_any err ss v p w' h hps
  generalize rs[p] = r at r0 hrd ⊢
  generalize wrongAt err ss p = E at WA hw ⊢
  have HWA := Lib.hid WA
  have HV := Lib.hid h
  clear WA h hc' hr hlo hhi hR hL
  go_enter Try.func44, Try.ntmps44
  go_upto_region 1 with fail
  obtain ⟨W1, hW1⟩ : ∃ W1, (w.alloc (.cells #[.int .i64 err, v] 24)).alloc (.cells #[.int .i64 0, .int .i64 0] 35) = W1 := ⟨_, rfl⟩
  have c0 : W1.cell? ⟨w.heap.size, 0, none⟩ = some (.int .i64 err) := by rw [← hW1]; simp [go_sem]
  have c1 : W1.cell? ⟨w.heap.size, 1, none⟩ = some v := by rw [← hW1]; simp [go_sem]
  have d0 : W1.cell? ⟨w.heap.size + 1, 0, none⟩ = some (.int .i64 0) := by rw [← hW1]; simp [go_sem]
  have d1 : W1.cell? ⟨w.heap.size + 1, 1, none⟩ = some (.int .i64 0) := by rw [← hW1]; simp [go_sem]
  have f0 : W1.frozen? ⟨w.heap.size + 1, 0, none⟩ = false := by rw [← hW1]; simp [go_sem]
  have f1 : W1.frozen? ⟨w.heap.size + 1, 1, none⟩ = false := by rw [← hW1]; simp [go_sem]
  have hB : Below w.heap.size w W1 := by rw [← hW1]; exact below_alloc2 _ _ _
  have hsz : w.heap.size + 1 < W1.heap.size := by rw [← hW1]; simp
  replace r0 := keep hB r0
  replace HV := Lib.hid (HV.out.below hB)
  rw [hW1]
  clear hW1
  go_region_held3 (fun w' => w'.cell? ⟨w.heap.size, 0, none⟩ = some (.int .i64 err) ∧ w'.cell? ⟨w.heap.size, 1, none⟩ = some v ∧ w'.cell? ⟨b', off' + p, none⟩ = some (.int .i64 r) ∧ Below W1.heap.size W1 w')
    (first | (go_split_ands; refine ⟨?_, ?_, ?_, ?_⟩ <;> with_reducible first | (refine keep hb ?_; assumption) | exact belT (by assumption) hb) | (go_split_ands; refine ⟨?_, ?_, ?_, ?_⟩ <;> with_reducible first | assumption | exact Below.drew (by assumption) | exact Below.drew (Below.refl _ _) | exact Below.refl _ _ | go_keep))
    (first | (go_at_call 86; go_split_ands; refine (HWA.out _ (HV.out.below (by with_reducible assumption))).mono ?_; rintro e w3 ⟨rfl, hb⟩))
  rename_i hH
  obtain ⟨-, -, -, hW⟩ := hH
  replace d0 := keep hW d0
  replace d1 := keep hW d1
  replace f0 := keepF hW hsz f0
  replace f1 := keepF hW hsz f1
  replace hB := belT hB hW
  clear c0 c1 r0 HWA HV hW
  by_cases h1 : r = -1
  · subst h1
    have e1 : rdLo (-1) E = 0 := rfl
    have e2 : rdHi (-1) E = 1000000 := rfl
    have E1 := Lib.hid e1
    have E2 := Lib.hid e2
    clear e1 e2
    go_wp2_with fail
    exact bodyPost_ret (v := .agg #[.int .i64 0, .int .i64 1000000]) (by simp [results, Try.results44, go_sem, *]) rfl ⟨by rw [E1.out, E2.out], by (repeat (first | assumption | exact Below.refl _ _ | refine Below.alloc ?_ (by (try simp) <;> omega) _ | refine below_drewN ?_ _ | refine Below.drew ?_ | refine Below.setCell ?_ (by (try simp) <;> omega) _ | refine Below.trans ?_ (Below.mono (by assumption) (by (try simp) <;> omega))))⟩
  · have t1 : (r == -1) = false := by rw [beq_eq_false_iff_ne]; exact h1
    have e1 : rdLo r E = max 0 (r - E) := by unfold rdLo; rw [if_neg h1]
    have e2 : rdHi r E = min 1000000 (r + E) := by unfold rdHi; rw [if_neg h1]
    have E1 := Lib.hid e1
    have E2 := Lib.hid e2
    clear e1 e2 h1
    go_wp2_with fail
    all_goals exact bodyPost_ret (v := .agg #[.int .i64 (max 0 (r - E)), .int .i64 (min 1000000 (r + E))]) (by simp [results, Try.results44, go_sem, *] <;> omega) rfl ⟨by rw [E1.out, E2.out], by (repeat (first | assumption | exact Below.refl _ _ | refine Below.alloc ?_ (by (try simp) <;> omega) _ | refine below_drewN ?_ _ | refine Below.drew ?_ | refine Below.setCell ?_ (by (try simp) <;> omega) _ | refine Below.trans ?_ (Below.mono (by assumption) (by (try simp) <;> omega))))⟩

set_option maxHeartbeats 2000000 in
theorem readings_err (err : Int) (ss : List Stp) (rs : List Int) (v rv : Value) (w : World) (h : Rd w 4 v (stpRows ss)) (hr : Rd w 1 rv (ints rs)) (hl6 : ss.length ≤ 100) :
    Calls Try.prog 42 #[.agg #[.int .i64 err, v], rv] w fun e w' => e = .returned (.int .i64 (rdErr ss rs)) ∧ Below w.heap.size w w' := by
  obtain ⟨a, c, rfl, -, hm, -⟩ := h
  obtain ⟨a', c', rfl, -, hm', hc'⟩ := hr.ints
  have H := Lib.hid hc'
  rw [stpRows_length] at hm ⊢
  clear hc' hr
  have hB := Below.refl w.heap.size w
  go_enter Try.func42, Try.ntmps42
  by_cases hl : rs.length = ss.length + 1
  · have hl' : ((rs.length : Int) != (ss.length : Int) + 1) = false := by rw [bne_eq_false_iff_eq]; omega
    have e1 : rdErr ss rs = (firstErr rdErr1 rs 0).2 := by unfold rdErr; rw [if_neg (by omega)]
    have E1 := Lib.hid e1
    clear e1 hl
    go_wp2_with fail
    go_loopw [5] (fun i wr => ∃ k : Nat, k ≤ rs.length ∧ i = .int .i64 k ∧ Below w.heap.size w wr ∧ Hid (∀ j (hj : j < k) (hz : j < rs.length), rdErr1 rs[j] = 0)) (fun i _ => rs.length - (intOf i).toNat)
    case atStart => exact ⟨0, Nat.zero_le _, rfl, by (repeat (first | assumption | exact Below.refl _ _ | refine Below.alloc ?_ (by (try simp) <;> omega) _ | refine below_drewN ?_ _ | refine Below.drew ?_ | refine Below.setCell ?_ (by (try simp) <;> omega) _ | refine Below.trans ?_ (Below.mono (by assumption) (by (try simp) <;> omega)))), fun j hj => absurd hj (Nat.not_lt_zero _)⟩
    case round =>
      clear hB
      obtain ⟨k, hk, rfl, hB, A⟩ := hrel
      have hzB := hB.size
      by_cases hlt : k < rs.length
      · have hlt' : (k : Int) < rs.length := by omega
        obtain ⟨b, off, rfl, hb, hc⟩ := H.out (by omega)
        have g1 := hc k hlt
        clear hc
        rw [← hB.cell (p := ⟨b, _, none⟩) hb] at g1
        generalize hx : rs[k] = x at g1
        have HX := Lib.hid hx
        clear hx
        by_cases hx1 : x = -1
        · subst hx1
          go_wp2_with fail
          go_roundw
          case rel =>
            refine ⟨k + 1, by omega, by go_num, by (repeat (first | assumption | exact Below.refl _ _ | refine Below.alloc ?_ (by (try simp) <;> omega) _ | refine below_drewN ?_ _ | refine Below.drew ?_ | refine Below.setCell ?_ (by (try simp) <;> omega) _ | refine Below.trans ?_ (Below.mono (by assumption) (by (try simp) <;> omega)))), fun j hj hz => ?_⟩
            by_cases e : j = k
            · subst e; rw [HX.out]; rfl
            · exact A.out j (by omega) hz
          case measure => simp [intOf]; omega
        · have t1 : (x != -1) = true := by rw [bne_iff_ne]; exact hx1
          have er : rdErr1 x = if !inB 0 1000000 x then 7 else 0 := by
            unfold rdErr1 inB
            rw [anyOut1]
            simp only [hx1, ne_eq, not_false_eq_true, true_and]
          have ER := Lib.hid er
          clear er hx1
          go_wp2_with fail
          refine (grams_any _ _).mono ?_
          rintro e w2 ⟨rfl, rfl⟩
          have ei : (decide (0 ≤ x) && decide (x ≤ 1000000)) = inB 0 1000000 x := rfl
          rw [ei]
          clear ei
          cases h1 : inB 0 1000000 x
          · have e7 : rdErr1 x = 7 := by rw [ER.out, h1]; rfl
            have e8 : rdErr ss rs = 7 := by rw [E1.out, firstErr_hit rdErr1 rs 0 k hlt (by rw [HX.out, e7]; decide) (fun j hj => A.out j hj _), HX.out, e7]
            have E8 := Lib.hid e8
            clear e7 e8
            go_wp2_with fail
            go_ret
            exact ⟨by rw [E8.out] <;> rfl, by (repeat (first | assumption | exact Below.refl _ _ | refine Below.alloc ?_ (by (try simp) <;> omega) _ | refine below_drewN ?_ _ | refine Below.drew ?_ | refine Below.setCell ?_ (by (try simp) <;> omega) _ | refine Below.trans ?_ (Below.mono (by assumption) (by (try simp) <;> omega))))⟩
          · have e7 : rdErr1 x = 0 := by rw [ER.out, h1]; rfl
            have E7 := Lib.hid e7
            clear e7
            go_wp2_with fail
            go_roundw
            case rel =>
              refine ⟨k + 1, by omega, by go_num, by (repeat (first | assumption | exact Below.refl _ _ | refine Below.alloc ?_ (by (try simp) <;> omega) _ | refine below_drewN ?_ _ | refine Below.drew ?_ | refine Below.setCell ?_ (by (try simp) <;> omega) _ | refine Below.trans ?_ (Below.mono (by assumption) (by (try simp) <;> omega)))), fun j hj hz => ?_⟩
              by_cases e : j = k
              · subst e; rw [HX.out]; exact E7.out
              · exact A.out j (by omega) hz
            case measure => simp [intOf]; omega
      · obtain rfl : k = rs.length := by omega
        have e8 : rdErr ss rs = 0 := by rw [E1.out, firstErr_miss rdErr1 rs 0 (fun j hj => A.out j (by omega) hj)]
        have E8 := Lib.hid e8
        clear e8
        go_wp2_with fail
        go_ret
        exact ⟨by rw [E8.out] <;> rfl, hB⟩
  · have hl' : ((rs.length : Int) != (ss.length : Int) + 1) = true := by rw [bne_iff_ne]; omega
    have e1 : rdErr ss rs = 3 := by unfold rdErr; rw [if_pos (by omega)]
    rw [e1]
    clear e1 hl
    go_wp2_with fail
    go_ret
    exact ⟨rfl, by (repeat (first | assumption | exact Below.refl _ _ | refine Below.alloc ?_ (by (try simp) <;> omega) _ | refine below_drewN ?_ _ | refine Below.drew ?_ | refine Below.setCell ?_ (by (try simp) <;> omega) _ | refine Below.trans ?_ (Below.mono (by assumption) (by (try simp) <;> omega))))⟩

set_option maxHeartbeats 4000000 in
theorem refCheck_any (err : Int) (ss : List Stp) (v : Value) (w : World) (h : Rd w 4 v (stpRows ss)) (hs : NamesFit ss) :
    Calls Try.prog 18 #[.agg #[.int .i64 err, v]] w fun e w' => e = .returned (.tuple #[.int .i64 (chk err ss).1, .int .i64 (chk err ss).2.1, .int .i64 (chk err ss).2.2]) ∧ Below w.heap.size w w' := by
  obtain ⟨a, c, rfl, -, hm, hr⟩ := h.stps
  have H := Lib.hid hr
  have HS := Lib.hid hs
  clear hr h hs
  have hB := Below.refl w.heap.size w
  have ec : chk err ss = if !inB 0 1000000 err then (1, 0, 7) else if !inB 1 6 ss.length then (2, 0, 3) else if (firstAt (stepErrAt ss) ss.length 0).2 = 0 then (0, 0, 0) else (2, (firstAt (stepErrAt ss) ss.length 0).1, (firstAt (stepErrAt ss) ss.length 0).2) := by
    unfold chk inB
    rw [anyOut1, anyOut1]
  have EC := Lib.hid ec
  clear ec
  go_enter Try.func18, Try.ntmps18
  go_wp2_with fail
  refine (grams_any _ _).mono ?_
  rintro e w1 ⟨rfl, rfl⟩
  have ei : (decide (0 ≤ err) && decide (err ≤ 1000000)) = inB 0 1000000 err := rfl
  rw [ei]
  clear ei
  cases hf : inB 0 1000000 err
  · go_wp2_with fail
    go_ret3
    exact ⟨by rw [EC.out, hf]; rfl, by (repeat (first | assumption | exact Below.refl _ _ | refine Below.alloc ?_ (by (try simp) <;> omega) _ | refine below_drewN ?_ _ | refine Below.drew ?_ | refine Below.setCell ?_ (by (try simp) <;> omega) _ | refine Below.trans ?_ (Below.mono (by assumption) (by (try simp) <;> omega))))⟩
  · go_wp2_with fail
    refine (in_any _ _ _ _).mono ?_
    rintro e w2 ⟨rfl, rfl⟩
    have ei : (decide (1 ≤ (ss.length : Int)) && decide ((ss.length : Int) ≤ 6)) = inB 1 6 ss.length := rfl
    rw [ei]
    clear ei
    cases hl : inB 1 6 ss.length
    · go_wp2_with fail
      go_ret3
      exact ⟨by rw [EC.out, hf, hl]; rfl, by (repeat (first | assumption | exact Below.refl _ _ | refine Below.alloc ?_ (by (try simp) <;> omega) _ | refine below_drewN ?_ _ | refine Below.drew ?_ | refine Below.setCell ?_ (by (try simp) <;> omega) _ | refine Below.trans ?_ (Below.mono (by assumption) (by (try simp) <;> omega))))⟩
    · have hl6 : ss.length ≤ 6 := by
        unfold inB at hl
        rw [Bool.and_eq_true, decide_eq_true_eq, decide_eq_true_eq] at hl
        omega
      have e1 : chk err ss = if (firstAt (stepErrAt ss) ss.length 0).2 = 0 then (0, 0, 0) else (2, (firstAt (stepErrAt ss) ss.length 0).1, (firstAt (stepErrAt ss) ss.length 0).2) := by rw [EC.out, hf, hl]; rfl
      have E1 := Lib.hid e1
      clear e1 EC hf hl
      go_wp2_with fail
      go_loopw [5] (fun i wr => ∃ k : Nat, k ≤ ss.length ∧ i = .int .i64 k ∧ wr.cell? ⟨w.heap.size, 1, none⟩ = some (.slice a ss.length c) ∧ Below w.heap.size w wr ∧ Hid (∀ j, j < k → stepErrAt ss j = 0)) (fun i _ => ss.length - (intOf i).toNat)
      case atStart => exact ⟨0, Nat.zero_le _, rfl, by simp, by (repeat (first | assumption | exact Below.refl _ _ | refine Below.alloc ?_ (by (try simp) <;> omega) _ | refine below_drewN ?_ _ | refine Below.drew ?_ | refine Below.setCell ?_ (by (try simp) <;> omega) _ | refine Below.trans ?_ (Below.mono (by assumption) (by (try simp) <;> omega)))), fun j hj => absurd hj (Nat.not_lt_zero _)⟩
      case round =>
        clear hB
        obtain ⟨k, hk, rfl, c1, hB, A⟩ := hrel
        have hzB := hB.size
        have hl1 := lt_of_cell c1
        by_cases hlt : k < ss.length
        · have hlt' : (k : Int) < ss.length := by omega
          obtain ⟨b, off, rfl, hb, hc⟩ := H.out (by omega)
          obtain ⟨g1, g2, g3, g4⟩ := hc k hlt
          have HC := Lib.hid hc
          clear hc
          rw [← hB.cell (p := ⟨b, _, none⟩) hb] at g1 g2 g3 g4
          have hn := HS.out ss[k] (List.getElem_mem _)
          have ek : stepErrAt ss k = stepErr (ss.take k) ss[k] := by unfold stepErrAt; rw [List.getElem?_eq_getElem hlt]
          generalize hx : ss[k] = x at g1 g2 g3 g4 hn ek
          have EK := Lib.hid ek
          clear ek hx
          have hit : stepErr (ss.take k) x ≠ 0 → chk err ss = (2, (k : Int), stepErr (ss.take k) x) := fun hq => by
            rw [E1.out, firstAt_hit (stepErrAt ss) ss.length 0 k hlt (by rw [Nat.zero_add, EK.out]; exact hq) (fun j hj => by rw [Nat.zero_add]; exact A.out j hj), Nat.zero_add, EK.out, if_neg hq]
          have HIT := Lib.hid hit
          clear hit
          obtain ⟨wo, rfl⟩ : ∃ wo : World, wo = wr := ⟨_, rfl⟩
          go_wp2_with fail
          refine (refName_any x.name _ hn).mono ?_
          rintro e w2 ⟨rfl, rfl⟩
          cases hq1 : nameOk x.name
          · have e6 : stepErr (ss.take k) x = 6 := by unfold stepErr; rw [hq1]; rfl
            have hh := HIT.out (by rw [e6]; decide)
            rw [e6] at hh
            have HH := Lib.hid hh
            clear hh e6 hq1
            go_wp2_with fail
            go_ret3
            exact ⟨by rw [HH.out] <;> rfl, by (repeat (first | assumption | exact Below.refl _ _ | refine Below.alloc ?_ (by (try simp) <;> omega) _ | refine below_drewN ?_ _ | refine Below.drew ?_ | refine Below.setCell ?_ (by (try simp) <;> omega) _ | refine Below.trans ?_ (Below.mono (by assumption) (by (try simp) <;> omega))))⟩
          · obtain ⟨W1, hW1⟩ : ∃ W1, wo.alloc (.cells #[.string x.name, .int .i64 x.lo, .int .i64 x.hi, .int .i64 x.err] 76) = W1 := ⟨_, rfl⟩
            have x0 : W1.cell? ⟨wo.heap.size, 0, none⟩ = some (.string x.name) := by rw [← hW1]; simp [go_sem]
            have x1 : W1.cell? ⟨wo.heap.size, 1, none⟩ = some (.int .i64 x.lo) := by rw [← hW1]; simp [go_sem]
            have x2 : W1.cell? ⟨wo.heap.size, 2, none⟩ = some (.int .i64 x.hi) := by rw [← hW1]; simp [go_sem]
            have x3 : W1.cell? ⟨wo.heap.size, 3, none⟩ = some (.int .i64 x.err) := by rw [← hW1]; simp [go_sem]
            have hb1 : Below wo.heap.size wo W1 := by rw [← hW1]; exact below_alloc1 _ _
            replace c1 := keep hb1 c1
            replace hB := belT hB hb1
            rw [hW1]
            clear g1 g2 g3 g4 hW1 hb1 hzB
            have es := fun (h0 : (ss.take k).any (fun y => eqN y.name x.name) = false) => show stepErr (ss.take k) x = if !inB 0 1000000 x.lo || !inB 0 1000000 x.hi || !inB 0 1000000 x.err then 7 else if x.hi < x.lo then 2 else 0 by
              unfold stepErr inB
              rw [hq1, h0, anyOut3]
              rfl
            have ed := fun (h0 : (ss.take k).any (fun y => eqN y.name x.name) = true) => show stepErr (ss.take k) x = 5 by
              unfold stepErr
              rw [hq1, h0]
              rfl
            have ES := Lib.hid es
            have ED := Lib.hid ed
            clear es ed hq1
            have hkl : k ≤ ss.length := hk
            go_wp2_with fail
            go_loopw [7] (fun i wr => ∃ n : Nat, n ≤ k ∧ i = .int .i64 n ∧ Below W1.heap.size W1 wr ∧ Hid (∀ j, j < n → ∀ h : j < ss.length, eqN ss[j].name x.name = false)) (fun i _ => k - (intOf i).toNat)
            case atStart => exact ⟨0, Nat.zero_le _, rfl, Below.refl _ _, fun j hj => absurd hj (Nat.not_lt_zero _)⟩
            case round =>
              obtain ⟨n, hn', rfl, hW, A2⟩ := hrel
              replace c1 := keep hW c1
              replace x0 := keep hW x0
              replace x1 := keep hW x1
              replace x2 := keep hW x2
              replace x3 := keep hW x3
              replace hB := belT hB hW
              by_cases hnk : n < k
              · have hnk' : (n : Int) < k := by omega
                have hns : (n : Int) < ss.length := by omega
                have hnn : n < ss.length := by omega
                obtain ⟨g1, -, -, -⟩ := HC.out n hnn
                rw [← hB.cell (p := ⟨b, _, none⟩) hb] at g1
                generalize hy : ss[n] = y at g1
                have HY := Lib.hid hy
                clear hy
                obtain ⟨wz, rfl⟩ : ∃ wz : World, wz = wr := ⟨_, rfl⟩
                cases hq : eqN y.name x.name
                · have hq' : (y.name.toList == x.name.toList) = false := hq
                  have HQ := Lib.hid hq
                  clear hq
                  go_wp2_with fail
                  go_quiet (fail)
                  go_wp2_with fail
                  go_roundw
                  case rel =>
                    refine ⟨n + 1, by omega, by go_num, belT hW (below_drewN (Below.refl _ _) _), fun j hj hz => ?_⟩
                    by_cases e : j = n
                    · subst e; rw [HY.out]; exact HQ.out
                    · exact A2.out j (by omega) hz
                  case measure => simp [intOf]; omega
                · have hq' : (y.name.toList == x.name.toList) = true := hq
                  have han : (ss.take k).any (fun y => eqN y.name x.name) = true := by
                    rw [List.any_eq_true]
                    refine ⟨ss[n], ?_, by rw [HY.out]; exact hq⟩
                    rw [List.mem_take_iff_getElem]
                    exact ⟨n, by omega, rfl⟩
                  have e5 := ED.out han
                  have hh := HIT.out (by rw [e5]; decide)
                  rw [e5] at hh
                  have HH := Lib.hid hh
                  clear hh e5 han hq
                  go_wp2_with fail
                  go_quiet (fail)
                  go_wp2_with fail
                  go_ret3
                  exact ⟨by rw [HH.out] <;> rfl, belT hB (below_drewN (Below.refl _ _) _)⟩
              · obtain rfl : n = k := by omega
                have han : (ss.take n).any (fun y => eqN y.name x.name) = false := by
                  rw [List.any_eq_false]
                  intro y hy
                  rw [List.mem_take_iff_getElem] at hy
                  obtain ⟨j, hj, rfl⟩ := hy
                  rw [A2.out j (by omega) (by omega)]
                  exact Bool.false_ne_true
                have es := ES.out han
                have BE := Lib.hid es
                clear es han ES ED A2
                go_wp2_with fail
                refine (grams_any _ _).mono ?_
                rintro e w2 ⟨rfl, rfl⟩
                have ei : (decide (0 ≤ x.lo) && decide (x.lo ≤ 1000000)) = inB 0 1000000 x.lo := rfl
                rw [ei]
                clear ei
                cases h1 : inB 0 1000000 x.lo
                · have e7 : stepErr (ss.take n) x = 7 := by rw [BE.out, h1]; rfl
                  have hh := HIT.out (by rw [e7]; decide)
                  rw [e7] at hh
                  have HH := Lib.hid hh
                  clear hh e7
                  go_wp2_with fail
                  go_ret3
                  exact ⟨by rw [HH.out] <;> rfl, hB⟩
                · go_wp2_with fail
                  refine (grams_any _ _).mono ?_
                  rintro e w2 ⟨rfl, rfl⟩
                  have ei : (decide (0 ≤ x.hi) && decide (x.hi ≤ 1000000)) = inB 0 1000000 x.hi := rfl
                  rw [ei]
                  clear ei
                  cases h2 : inB 0 1000000 x.hi
                  · have e7 : stepErr (ss.take n) x = 7 := by rw [BE.out, h1, h2]; rfl
                    have hh := HIT.out (by rw [e7]; decide)
                    rw [e7] at hh
                    have HH := Lib.hid hh
                    clear hh e7
                    go_wp2_with fail
                    go_ret3
                    exact ⟨by rw [HH.out] <;> rfl, hB⟩
                  · go_wp2_with fail
                    refine (grams_any _ _).mono ?_
                    rintro e w2 ⟨rfl, rfl⟩
                    have ei : (decide (0 ≤ x.err) && decide (x.err ≤ 1000000)) = inB 0 1000000 x.err := rfl
                    rw [ei]
                    clear ei
                    cases h3 : inB 0 1000000 x.err
                    · have e7 : stepErr (ss.take n) x = 7 := by rw [BE.out, h1, h2, h3]; rfl
                      have hh := HIT.out (by rw [e7]; decide)
                      rw [e7] at hh
                      have HH := Lib.hid hh
                      clear hh e7
                      go_wp2_with fail
                      go_ret3
                      exact ⟨by rw [HH.out] <;> rfl, hB⟩
                    · by_cases h4 : x.hi < x.lo
                      · have e7 : stepErr (ss.take n) x = 2 := by rw [BE.out, h1, h2, h3]; simp [h4]
                        have hh := HIT.out (by rw [e7]; decide)
                        rw [e7] at hh
                        have HH := Lib.hid hh
                        clear hh e7
                        go_wp2_with fail
                        go_ret3
                        exact ⟨by rw [HH.out] <;> rfl, hB⟩
                      · have h4' : x.lo ≤ x.hi := by omega
                        have e7 : stepErr (ss.take n) x = 0 := by rw [BE.out, h1, h2, h3]; simp [h4]
                        have E7 := Lib.hid e7
                        clear e7
                        go_wp2_with fail
                        go_roundw
                        case rel =>
                          refine ⟨n + 1, by omega, by go_num, c1, hB, fun j hj => ?_⟩
                          by_cases e : j = n
                          · subst e; rw [EK.out]; exact E7.out
                          · exact A.out j (by omega)
                        case measure => simp [intOf]; omega
        · obtain rfl : k = ss.length := by omega
          have e8 : chk err ss = (0, 0, 0) := by rw [E1.out, firstAt_miss (stepErrAt ss) ss.length 0 (fun j hj => by rw [Nat.zero_add]; exact A.out j hj)]; rfl
          have E8 := Lib.hid e8
          clear e8
          go_wp2_with fail
          go_ret3
          exact ⟨by rw [E8.out] <;> rfl, hB⟩

end Go.Proofs.Ytnombgiacfeloaa

namespace Go.Proofs.Ytnombgiacfeloaa
set_option linter.unusedVariables false
set_option linter.unusedSimpArgs false
open Go.RowKit

set_option maxHeartbeats 1000000 in
theorem valid_any (err : Int) (ss : List Stp) (v : Value) (w : World) (h : Rd w 4 v (stpRows ss)) (hs : NamesFit ss) :
    Calls Try.prog 39 #[.agg #[.int .i64 err, v]] w fun e w' => e = .returned (.bool ((chk err ss).2.2 == 0)) ∧ Below w.heap.size w w' := by
  have hB := Below.refl w.heap.size w
  have HR := Lib.hid h
  have HS := Lib.hid hs
  clear h hs
  have rc := fun w' (h : Rd w' 4 v (stpRows ss)) => refCheck_any err ss v w' h HS.out
  generalize chk err ss = c at rc ⊢
  obtain ⟨c1, c2, c3⟩ := c
  dsimp only at rc ⊢
  have RC := Lib.hid rc
  clear rc
  go_enter Try.func39, Try.ntmps39
  go_wp2_with fail
  refine (RC.out _ (HR.out.below (by (repeat (first | assumption | exact Below.refl _ _ | refine Below.alloc ?_ (by (try simp) <;> omega) _ | refine below_drewN ?_ _ | refine Below.drew ?_ | refine Below.setCell ?_ (by (try simp) <;> omega) _ | refine Below.trans ?_ (Below.mono (by assumption) (by (try simp) <;> omega))))))).mono ?_
  rintro e w1 ⟨rfl, hb⟩
  have hk : Below w.heap.size w w1 := by (repeat (first | assumption | exact Below.refl _ _ | refine Below.alloc ?_ (by (try simp) <;> omega) _ | refine below_drewN ?_ _ | refine Below.drew ?_ | refine Below.setCell ?_ (by (try simp) <;> omega) _ | refine Below.trans ?_ (Below.mono (by assumption) (by (try simp) <;> omega))))
  replace hB := hB.trans (hk.mono hB.size)
  have hzw1 := hB.size
  clear hk hb
  go_wp2_with fail
  go_ret
  exact ⟨rfl, hB⟩

set_option maxHeartbeats 1000000 in
theorem asked_any (err : Int) (ss : List Stp) (rs : List Int) (v rv : Value) (w : World) (h : Rd w 4 v (stpRows ss)) (hr : Rd w 1 rv (ints rs)) (hs : NamesFit ss) :
    Calls Try.prog 66 #[.agg #[.int .i64 err, v], rv] w fun e w' => e = .returned (.int .i64 (askErr err ss rs)) ∧ Below w.heap.size w w' := by
  have hB := Below.refl w.heap.size w
  have HR := Lib.hid h
  have HQ := Lib.hid hr
  have HS := Lib.hid hs
  clear h hs hr
  have ea : askErr err ss rs = if (chk err ss).2.2 ≠ 0 then (chk err ss).2.2 else rdErr ss rs := rfl
  have ho := fun h : (chk err ss).2.2 = 0 => chk_ok h
  go_enter Try.func66, Try.ntmps66
  go_wp2_with fail
  refine (refCheck_any err ss v _ (HR.out.below (by (repeat (first | assumption | exact Below.refl _ _ | refine Below.alloc ?_ (by (try simp) <;> omega) _ | refine below_drewN ?_ _ | refine Below.drew ?_ | refine Below.setCell ?_ (by (try simp) <;> omega) _ | refine Below.trans ?_ (Below.mono (by assumption) (by (try simp) <;> omega)))))) HS.out).mono ?_
  rintro e w1 ⟨rfl, hb⟩
  have c0 : w1.cell? ⟨w.heap.size, 0, none⟩ = some (.int .i64 err) := keep hb (by simp [go_sem])
  have c1 : w1.cell? ⟨w.heap.size, 1, none⟩ = some v := keep hb (by simp [go_sem])
  have hk : Below w.heap.size w w1 := by (repeat (first | assumption | exact Below.refl _ _ | refine Below.alloc ?_ (by (try simp) <;> omega) _ | refine below_drewN ?_ _ | refine Below.drew ?_ | refine Below.setCell ?_ (by (try simp) <;> omega) _ | refine Below.trans ?_ (Below.mono (by assumption) (by (try simp) <;> omega))))
  replace hB := hB.trans (hk.mono hB.size)
  have hzw1 := hB.size
  clear hk hb
  generalize chk err ss = c at ea ho ⊢
  obtain ⟨d1, d2, d3⟩ := c
  dsimp only at ea ho ⊢
  have HE := Lib.hid ea
  clear ea
  by_cases h0 : d3 = 0
  · subst h0
    have hl := (ho rfl).len
    have rr := readings_err err ss rs v rv w1 (HR.out.below hB) (HQ.out.below hB) (by omega)
    have RR := Lib.hid rr
    clear rr ho
    go_wp2_with fail
    refine RR.out.mono ?_
    rintro e w2 ⟨rfl, hb⟩
    have hk : Below w1.heap.size w1 w2 := by (repeat (first | assumption | exact Below.refl _ _ | refine Below.alloc ?_ (by (try simp) <;> omega) _ | refine below_drewN ?_ _ | refine Below.drew ?_ | refine Below.setCell ?_ (by (try simp) <;> omega) _ | refine Below.trans ?_ (Below.mono (by assumption) (by (try simp) <;> omega))))
    replace hB := hB.trans (hk.mono hB.size)
    have hzw2 := hB.size
    clear hk hb
    have h2 : askErr err ss rs = rdErr ss rs := by rw [HE.out, if_neg (by simp)]
    have H2 := Lib.hid h2
    clear h2
    go_wp2_with fail
    go_ret
    exact ⟨by rw [H2.out] <;> rfl, hB⟩
  · have t1 : (d3 == 0) = false := by rw [beq_eq_false_iff_ne]; exact h0
    have h2 : askErr err ss rs = d3 := by rw [HE.out, if_pos h0]
    have H2 := Lib.hid h2
    clear ho h0 h2
    go_wp2_with fail
    go_ret
    exact ⟨by rw [H2.out] <;> rfl, hB⟩

end Go.Proofs.Ytnombgiacfeloaa
