/- The walk of 'Lost'. The walk of 'Off'. The walk of the function value in 'Cheats': is there a truth without a reading. -/
import Derived.Test.YtcncmlpppabbcaaGreatW13
import Derived.Test.YtcncmlpppabbcaaGreatM11
import Derived.WalkMore
import Derived.Deep.Cut
namespace Go.Proofs.YtcncmlpppabbcaaGreat
set_option linter.unusedVariables false
set_option linter.unusedSimpArgs false
open Go.RowKit

theorem openVal_ok {err : Int} {ss : List Stp} {rs : List Int} {v rv : Value} (h : askErr err ss rs = 0) : openVal err ss rs v rv = .agg #[.int .i64 err, v, rv] := by
  unfold openVal
  rw [if_neg]
  unfold askErr at h
  by_cases h1 : (chk err ss).2.2 ≠ 0
  · rw [if_pos h1] at h; exact absurd h h1
  · rw [if_neg h1] at h
    intro hh
    rcases hh with hh | hh
    · exact h1 hh
    · exact hh (rdErr_ok h).len

theorem openVal_cases (err : Int) (ss : List Stp) (rs : List Int) (a b : Option Addr) (n m c d : Nat) : ∃ (q : Int) (a' b' : Option Addr) (n' m' c' d' : Nat), openVal err ss rs (.slice a n c) (.slice b m d) = .agg #[.int .i64 q, .slice a' n' c', .slice b' m' d'] := by
  unfold openVal
  split
  · exact ⟨_, _, _, _, _, _, _, rfl⟩
  · exact ⟨_, _, _, _, _, _, _, rfl⟩

set_option maxRecDepth 100000 in
set_option maxHeartbeats 1000000 in
theorem lost_any (err : Int) (ss : List Stp) (rs : List Int) (v rv : Value) (x y : Int) (w : World) (h : Rd w 4 v (stpRows ss)) (hr : Rd w 1 rv (ints rs)) (hs : NamesFit ss) :
    Calls Tryz.prog 10 #[.agg #[.int .i64 err, v], rv, .int .i64 x, .int .i64 y] w fun e w' => e = .returned (.tuple #[.agg #[.int .i64 (lostAt err ss rs x y).1, .int .i64 (lostAt err ss rs x y).2], .int .i64 (lostErr err ss rs x y)]) ∧ Below w.heap.size w w' := by
  have hB := Below.refl w.heap.size w
  have HR := Lib.hid h
  have HQ := Lib.hid hr
  have HS := Lib.hid hs
  obtain ⟨a, c, rfl, -, hm, -⟩ := h
  obtain ⟨a', c', rfl, -, hm', -⟩ := hr
  have hsl := stpRows_length ss
  have hsl' := ints_length rs
  rw [hsl] at HR hm ⊢
  rw [hsl'] at HQ hm' ⊢
  clear hs hsl hsl'
  go_enter Tryz.func10, Tryz.ntmps10
  go_wp2_with fail
  refine (open_any err ss rs _ _ _ (HR.out.below (below_alloc2 _ _ _)) (HQ.out.below (below_alloc2 _ _ _)) HS.out).mono ?_
  rintro e w1 ⟨rfl, hb⟩
  have g0 : w1.cell? ⟨w.heap.size, 0, none⟩ = some (.int .i64 err) := keep hb (by simp [go_sem])
  have g1 : w1.cell? ⟨w.heap.size, 1, none⟩ = some (.slice a ss.length c) := keep hb (by simp [go_sem])
  have r0 : w1.cell? ⟨w.heap.size + 1, 0, none⟩ = some (.int .i64 0) := keep hb (by simp [go_sem])
  have r1 : w1.cell? ⟨w.heap.size + 1, 1, none⟩ = some (.int .i64 0) := keep hb (by simp [go_sem])
  have f0 : w1.frozen? ⟨w.heap.size + 1, 0, none⟩ = false := keepF hb (by simp) (by simp [go_sem])
  have f1 : w1.frozen? ⟨w.heap.size + 1, 1, none⟩ = false := keepF hb (by simp) (by simp [go_sem])
  have hk : Below w.heap.size w w1 := by (repeat (first | assumption | exact Below.refl _ _ | refine Below.alloc ?_ (by (try simp) <;> omega) _ | refine below_drewN ?_ _ | refine Below.drew ?_ | refine Below.setCell ?_ (by (try simp) <;> omega) _ | refine Below.trans ?_ (Below.mono (by assumption) (by (try simp) <;> omega))))
  replace hB := hB.trans (hk.mono hB.size)
  have hzw1 := hB.size
  clear hk hb
  have lg := lt_of_cell g0
  have lr := lt_of_cell r0
  by_cases hq1 : askErr err ss rs = 0
  · have t1 : (askErr err ss rs != 0) = false := by simp [hq1]
    obtain ⟨hL, hR⟩ := askErr_ok hq1
    rw [openVal_ok hq1]
    rw [hq1] at t1 ⊢
    have hqa := Lib.hid hq1
    clear hq1
    go_wp2_with fail
    refine (out_any 0 ss.length _ [x, y] _ (Rd.made2 _ _ _ _ _ (by simp))).mono ?_
    rintro e w2 ⟨rfl, hb⟩
    have l0 : w2.cell? ⟨w1.heap.size, 0, none⟩ = some (.int .i64 err) := keep hb (by simp [go_sem])
    have l1 : w2.cell? ⟨w1.heap.size, 1, none⟩ = some (.slice a ss.length c) := keep hb (by simp [go_sem])
    have l2 : w2.cell? ⟨w1.heap.size, 2, none⟩ = some (.slice a' rs.length c') := keep hb (by simp [go_sem])
    replace hb : Below w1.heap.size w1 w2 := (below_alloc2 _ _ _).trans (hb.mono (by simp; omega))
    replace f0 := keepF hb lr f0
    replace f1 := keepF hb lr f1
    have hk : Below w1.heap.size w1 w2 := by (repeat (first | assumption | exact Below.refl _ _ | refine Below.alloc ?_ (by (try simp) <;> omega) _ | refine below_drewN ?_ _ | refine Below.drew ?_ | refine Below.setCell ?_ (by (try simp) <;> omega) _ | refine Below.trans ?_ (Below.mono (by assumption) (by (try simp) <;> omega))))
    replace hB := hB.trans (hk.mono hB.size)
    have hzw2 := hB.size
    replace r0 := keep hk r0
    replace r1 := keep hk r1
    have lr0 := lt_of_cell r0
    clear hk hb
    by_cases hq2 : anyOut 0 ss.length [x, y] = true
    · rw [hq2]
      have e1 : lostErr err ss rs x y = 4 := by simp [lostErr, hqa.out, hq2]
      have e2 : lostAt err ss rs x y = (0, 0) := by simp [lostAt, e1]
      have E1 := Lib.hid e1
      have E2 := Lib.hid e2
      clear e1 e2 hq2
      go_wp2_with fail
      exact bodyPost_ret (v := .tuple #[.agg #[.int .i64 0, .int .i64 0], .int .i64 4]) (by simp [results, Tryz.results10, go_sem, *]) rfl ⟨by rw [E1.out, E2.out], by (repeat (first | assumption | exact Below.refl _ _ | refine Below.alloc ?_ (by (try simp) <;> omega) _ | refine below_drewN ?_ _ | refine Below.drew ?_ | refine Below.setCell ?_ (by (try simp) <;> omega) _ | refine Below.trans ?_ (Below.mono (by assumption) (by (try simp) <;> omega))))⟩
    · replace hq2 : anyOut 0 ss.length [x, y] = false := by simpa using hq2
      have hxy : 0 ≤ x ∧ x ≤ ss.length ∧ 0 ≤ y ∧ y ≤ ss.length := by
        rw [anyOut2] at hq2
        simp at hq2
        omega
      rw [hq2]
      by_cases hq3 : y ≤ x
      · have e1 : lostErr err ss rs x y = 4 := by simp [lostErr, hqa.out, hq3]
        have e2 : lostAt err ss rs x y = (0, 0) := by simp [lostAt, e1]
        have E1 := Lib.hid e1
        have E2 := Lib.hid e2
        clear e1 e2 hq2
        go_wp2_with fail
        exact bodyPost_ret (v := .tuple #[.agg #[.int .i64 0, .int .i64 0], .int .i64 4]) (by simp [results, Tryz.results10, go_sem, *]) rfl ⟨by rw [E1.out, E2.out], by (repeat (first | assumption | exact Below.refl _ _ | refine Below.alloc ?_ (by (try simp) <;> omega) _ | refine below_drewN ?_ _ | refine Below.drew ?_ | refine Below.setCell ?_ (by (try simp) <;> omega) _ | refine Below.trans ?_ (Below.mono (by assumption) (by (try simp) <;> omega))))⟩
      · have hq3' : x < y := by omega
        obtain ⟨i, rfl⟩ : ∃ i : Nat, x = i := ⟨x.toNat, by omega⟩
        obtain ⟨j, rfl⟩ : ∃ j : Nat, y = j := ⟨y.toNat, by omega⟩
        have e1 : lostErr err ss rs i j = if sound (closed err ss rs) = true then 0 else 9 := by simp [lostErr, hqa.out, hq2, hq3]
        have E1 := Lib.hid e1
        have e2 : lostAt err ss rs i j = if sound (closed err ss rs) = true then (-closed err ss rs j i, closed err ss rs i j) else (0, 0) := by
          simp only [lostAt, e1, Int.toNat_natCast]
          by_cases hs : sound (closed err ss rs) = true
          · simp [hs]
          · simp [hs]
        have E2 := Lib.hid e2
        clear e1 e2 hq2
        go_wp2_with fail
        refine (close_any err ss rs _ _ hL hR _ (HR.out.below hB) (HQ.out.below hB)).mono ?_
        rintro e w3 ⟨rfl, hb⟩
        replace f0 := keepF hb (by omega) f0
        replace f1 := keepF hb (by omega) f1
        have hk : Below w2.heap.size w2 w3 := by (repeat (first | assumption | exact Below.refl _ _ | refine Below.alloc ?_ (by (try simp) <;> omega) _ | refine below_drewN ?_ _ | refine Below.drew ?_ | refine Below.setCell ?_ (by (try simp) <;> omega) _ | refine Below.trans ?_ (Below.mono (by assumption) (by (try simp) <;> omega))))
        replace hB := hB.trans (hk.mono hB.size)
        have hzw3 := hB.size
        replace r0 := keep hk r0
        replace r1 := keep hk r1
        have lr0 := lt_of_cell r0
        clear hk hb
        have hbd := closed_bd hL hR
        obtain ⟨M, hM⟩ : ∃ M, closed err ss rs = M := ⟨_, rfl⟩
        rw [hM] at hbd ⊢
        have HM := Lib.hid hM
        clear hM
        by_cases hq4 : sound M = true
        · rw [hq4]
          go_wp2_with ((with_reducible refine wpList_store_fresh (o := ⟨none, .store 104 (.tmp 11) (.tmp 42), _, _, _, _⟩) rfl (.tmp 11) (.tmp 42) rfl w3.heap.size rfl ?hz ?hx M ?hy ?_); (case hz => rfl); (case hx => rfl); (case hy => rfl))
          have hT : TabAt (w3.alloc (.cells (tabCells M) 104)) w3.heap.size M := World.alloc_heap_new w3 _
          have hkk := below_alloc1 w3 (.cells (tabCells M) 104)
          replace r0 := keep hkk r0
          replace r1 := keep hkk r1
          replace f0 := keepF hkk (by omega) f0
          replace f1 := keepF hkk (by omega) f1
          have hB3 : Below w.heap.size w (w3.alloc (.cells (tabCells M) 104)) := hB.trans (hkk.mono (by omega))
          clear hkk
          have hl6 := hL.len
          have c0 := hT.cell j i (by omega) (by omega)
          have c1 := hT.cell i j (by omega) (by omega)
          obtain ⟨W3, hW3⟩ : ∃ W, w3.alloc (.cells (tabCells M) 104) = W := ⟨_, rfl⟩
          rw [hW3] at c0 c1 r0 r1 f0 f1 hB3 ⊢
          clear hT hW3
          have b1 := hbd j i
          have b2 := hbd i j
          have n1 : IntKind.i64.wrap (-M j i) = -M j i := by simp [IntKind.wrap, IntKind.bits, IntKind.signed]; omega
          have k1 : (i : Int) < 8 := by omega
          have k2 : (j : Int) < 8 := by omega
          clear hbd
          refine wp_calm ?_
          go_region
          all_goals refine onlyNormal_mk ?_
          all_goals go_wp2_with fail
          exact bodyPost_ret (v := .tuple #[.agg #[.int .i64 (-M j i), .int .i64 (M i j)], .int .i64 0]) (by simp [results, Tryz.results10, go_sem, *]) rfl ⟨by rw [E1.out, E2.out, HM.out, hq4]; rfl, by (repeat (first | assumption | exact Below.refl _ _ | refine Below.alloc ?_ (by (try simp) <;> omega) _ | refine below_drewN ?_ _ | refine Below.drew ?_ | refine Below.setCell ?_ (by (try simp) <;> omega) _ | refine Below.trans ?_ (Below.mono (by assumption) (by (try simp) <;> omega))))⟩
        · replace hq4 : sound M = false := by simpa using hq4
          rw [hq4]
          go_wp2_with ((with_reducible refine wpList_store_fresh (o := ⟨none, .store 104 (.tmp 11) (.tmp 42), _, _, _, _⟩) rfl (.tmp 11) (.tmp 42) rfl w3.heap.size rfl ?hz ?hx M ?hy ?_); (case hz => rfl); (case hx => rfl); (case hy => rfl))
          exact bodyPost_ret (v := .tuple #[.agg #[.int .i64 0, .int .i64 0], .int .i64 9]) (by simp [results, Tryz.results10, go_sem, *]) rfl ⟨by rw [E1.out, E2.out, HM.out, hq4]; rfl, by (repeat (first | assumption | exact Below.refl _ _ | refine Below.alloc ?_ (by (try simp) <;> omega) _ | refine below_drewN ?_ _ | refine Below.drew ?_ | refine Below.setCell ?_ (by (try simp) <;> omega) _ | refine Below.trans ?_ (Below.mono (by assumption) (by (try simp) <;> omega))))⟩
  · have t1 : (askErr err ss rs != 0) = true := by simp [hq1]
    have e1 : lostErr err ss rs x y = askErr err ss rs := by simp [lostErr, hq1]
    have e2 : lostAt err ss rs x y = (0, 0) := by simp [lostAt, e1, hq1]
    obtain ⟨q0, q1, q2, q3, q4, q5, q6, hov⟩ := openVal_cases err ss rs a a' ss.length rs.length c c'
    rw [hov]
    have E1 := Lib.hid e1
    have E2 := Lib.hid e2
    clear e1 e2 hov hq1
    obtain ⟨q, hq⟩ : ∃ q, askErr err ss rs = q := ⟨_, rfl⟩
    rw [hq] at t1 ⊢
    have HQ1 := Lib.hid hq
    clear hq
    go_wp2_with fail
    exact bodyPost_ret (v := .tuple #[.agg #[.int .i64 0, .int .i64 0], .int .i64 q]) (by simp [results, Tryz.results10, go_sem, *]) rfl ⟨by rw [E1.out, E2.out, HQ1.out], by (repeat (first | assumption | exact Below.refl _ _ | refine Below.alloc ?_ (by (try simp) <;> omega) _ | refine below_drewN ?_ _ | refine Below.drew ?_ | refine Below.setCell ?_ (by (try simp) <;> omega) _ | refine Below.trans ?_ (Below.mono (by assumption) (by (try simp) <;> omega))))⟩

end Go.Proofs.YtcncmlpppabbcaaGreat

namespace Go.Proofs.YtcncmlpppabbcaaGreat
set_option linter.unusedVariables false
set_option linter.unusedSimpArgs false
open Go.RowKit

set_option maxRecDepth 100000 in
set_option maxHeartbeats 2000000 in
theorem off_any (err : Int) (ss : List Stp) (rs : List Int) (v rv : Value) (p : Int) (w : World) (h : Rd w 4 v (stpRows ss)) (hr : Rd w 1 rv (ints rs)) (hs : NamesFit ss) :
    Calls Tryz.prog 38 #[.agg #[.int .i64 err, v], rv, .int .i64 p] w fun e w' => e = .returned (.tuple #[.agg #[.int .i64 (offAt err ss rs p).1, .int .i64 (offAt err ss rs p).2], .int .i64 (offErr err ss rs p)]) ∧ Below w.heap.size w w' := by
  have hB := Below.refl w.heap.size w
  have HR := Lib.hid h
  have HQ := Lib.hid hr
  have HS := Lib.hid hs
  have hrc := hr.ints
  obtain ⟨a, c, rfl, -, hm, -⟩ := h
  obtain ⟨a', c', rfl, -, hm', -⟩ := hr
  have hsl := stpRows_length ss
  have hsl' := ints_length rs
  rw [hsl] at HR hm ⊢
  rw [hsl'] at HQ hm' hrc ⊢
  have HRC := Lib.hid hrc
  clear hs hsl hsl' hrc
  go_enter Tryz.func38, Tryz.ntmps38
  go_wp2_with fail
  refine (open_any err ss rs _ _ _ (HR.out.below (below_alloc2 _ _ _)) (HQ.out.below (below_alloc2 _ _ _)) HS.out).mono ?_
  rintro e w1 ⟨rfl, hb⟩
  have g0 : w1.cell? ⟨w.heap.size, 0, none⟩ = some (.int .i64 err) := keep hb (by simp [go_sem])
  have g1 : w1.cell? ⟨w.heap.size, 1, none⟩ = some (.slice a ss.length c) := keep hb (by simp [go_sem])
  have r0 : w1.cell? ⟨w.heap.size + 1, 0, none⟩ = some (.int .i64 0) := keep hb (by simp [go_sem])
  have r1 : w1.cell? ⟨w.heap.size + 1, 1, none⟩ = some (.int .i64 0) := keep hb (by simp [go_sem])
  have f0 : w1.frozen? ⟨w.heap.size + 1, 0, none⟩ = false := keepF hb (by simp) (by simp [go_sem])
  have f1 : w1.frozen? ⟨w.heap.size + 1, 1, none⟩ = false := keepF hb (by simp) (by simp [go_sem])
  have hk : Below w.heap.size w w1 := by (repeat (first | assumption | exact Below.refl _ _ | refine Below.alloc ?_ (by (try simp) <;> omega) _ | refine below_drewN ?_ _ | refine Below.drew ?_ | refine Below.setCell ?_ (by (try simp) <;> omega) _ | refine Below.trans ?_ (Below.mono (by assumption) (by (try simp) <;> omega))))
  replace hB := hB.trans (hk.mono hB.size)
  have hzw1 := hB.size
  clear hk hb
  have lg := lt_of_cell g0
  have lr := lt_of_cell r0
  by_cases hq1 : askErr err ss rs = 0
  · have t1 : (askErr err ss rs != 0) = false := by simp [hq1]
    obtain ⟨hL, hR⟩ := askErr_ok hq1
    rw [openVal_ok hq1]
    rw [hq1] at t1 ⊢
    have hqa := Lib.hid hq1
    clear hq1
    go_wp2_with fail
    refine (out_any 0 ss.length _ [p] _ (Rd.made1 _ _ _ _ (by simp))).mono ?_
    rintro e w2 ⟨rfl, hb⟩
    have l0 : w2.cell? ⟨w1.heap.size, 0, none⟩ = some (.int .i64 err) := keep hb (by simp [go_sem])
    have l1 : w2.cell? ⟨w1.heap.size, 1, none⟩ = some (.slice a ss.length c) := keep hb (by simp [go_sem])
    have l2 : w2.cell? ⟨w1.heap.size, 2, none⟩ = some (.slice a' rs.length c') := keep hb (by simp [go_sem])
    replace hb : Below w1.heap.size w1 w2 := (below_alloc2 _ _ _).trans (hb.mono (by simp; omega))
    replace f0 := keepF hb lr f0
    replace f1 := keepF hb lr f1
    have hk : Below w1.heap.size w1 w2 := by (repeat (first | assumption | exact Below.refl _ _ | refine Below.alloc ?_ (by (try simp) <;> omega) _ | refine below_drewN ?_ _ | refine Below.drew ?_ | refine Below.setCell ?_ (by (try simp) <;> omega) _ | refine Below.trans ?_ (Below.mono (by assumption) (by (try simp) <;> omega))))
    replace hB := hB.trans (hk.mono hB.size)
    have hzw2 := hB.size
    replace r0 := keep hk r0
    replace r1 := keep hk r1
    have lr0 := lt_of_cell r0
    clear hk hb
    by_cases hq2 : anyOut 0 ss.length [p] = true
    · rw [hq2]
      have e1 : offErr err ss rs p = 4 := by simp [offErr, hqa.out, hq2]
      have e2 : offAt err ss rs p = (0, 0) := by simp [offAt, e1]
      have E1 := Lib.hid e1
      have E2 := Lib.hid e2
      clear e1 e2 hq2
      go_wp2_with fail
      exact bodyPost_ret (v := .tuple #[.agg #[.int .i64 0, .int .i64 0], .int .i64 4]) (by simp [results, Tryz.results38, go_sem, *]) rfl ⟨by rw [E1.out, E2.out], by (repeat (first | assumption | exact Below.refl _ _ | refine Below.alloc ?_ (by (try simp) <;> omega) _ | refine below_drewN ?_ _ | refine Below.drew ?_ | refine Below.setCell ?_ (by (try simp) <;> omega) _ | refine Below.trans ?_ (Below.mono (by assumption) (by (try simp) <;> omega))))⟩
    · replace hq2 : anyOut 0 ss.length [p] = false := by simpa using hq2
      have hp : 0 ≤ p ∧ p ≤ ss.length := by
        rw [anyOut1] at hq2
        simp at hq2
        omega
      rw [hq2]
      obtain ⟨k, rfl⟩ : ∃ k : Nat, p = k := ⟨p.toNat, by omega⟩
      have hkr : k < rs.length := by have := hR.len; omega
      have hr7 : rs.length ≤ 7 := by have := hR.len; have := hL.len; omega
      obtain ⟨b0, c0', hv0, -, -, hcs⟩ := HRC.out
      obtain ⟨b, off, hb0, hbl, hcs⟩ := hcs (by omega)
      obtain rfl : a' = some ⟨b, off, none⟩ := by simp at hv0; rw [hv0.1, hb0]
      clear hv0 hb0
      have hr0 := hcs k hkr
      have hrd := hR.rd rs[k] (List.getElem_mem _)
      have ek : rs[k]? = some rs[k] := List.getElem?_eq_getElem hkr
      clear hcs
      obtain ⟨z, hz⟩ : ∃ z, rs[k] = z := ⟨_, rfl⟩
      rw [hz] at hr0 hrd ek
      clear hz
      have EK := Lib.hid ek
      clear ek
      replace hr0 : w2.cell? ⟨b, off + k, none⟩ = some (.int .i64 z) := keep hB hr0
      have kk : (k : Int) < rs.length := by omega
      by_cases hq3 : z = -1
      · subst hq3
        have e1 : offErr err ss rs k = 4 := by simp [offErr, hqa.out, EK.out]
        have e2 : offAt err ss rs k = (0, 0) := by simp [offAt, e1]
        have E1 := Lib.hid e1
        have E2 := Lib.hid e2
        clear e1 e2 hq2
        go_wp2_with fail
        exact bodyPost_ret (v := .tuple #[.agg #[.int .i64 0, .int .i64 0], .int .i64 4]) (by simp [results, Tryz.results38, go_sem, *]) rfl ⟨by rw [E1.out, E2.out], by (repeat (first | assumption | exact Below.refl _ _ | refine Below.alloc ?_ (by (try simp) <;> omega) _ | refine below_drewN ?_ _ | refine Below.drew ?_ | refine Below.setCell ?_ (by (try simp) <;> omega) _ | refine Below.trans ?_ (Below.mono (by assumption) (by (try simp) <;> omega))))⟩
      · have t3 : (z == -1) = false := by simp [hq3]
        replace hrd := hrd.resolve_left hq3
        have e1 : offErr err ss rs k = if sound (closed err ss (rs.set k (-1))) = true then 0 else 9 := by simp [offErr, hqa.out, hq2, EK.out, hq3]
        have E1 := Lib.hid e1
        have e2 : offAt err ss rs k = if sound (closed err ss (rs.set k (-1))) = true then (z - closed err ss (rs.set k (-1)) k 7, z + closed err ss (rs.set k (-1)) 7 k) else (0, 0) := by
          simp only [offAt, e1, Int.toNat_natCast]
          by_cases hs : sound (closed err ss (rs.set k (-1))) = true
          · simp [hs, EK.out]
          · simp [hs]
        have E2 := Lib.hid e2
        clear e1 e2 hq2
        go_wp2_with fail
        refine (without_any err rs a ss.length c _ k _ (HQ.out.below hB) hkr (by omega)).mono ?_
        rintro e w3 ⟨rv', rfl, hrv, hb⟩
        replace f0 := keepF hb (by omega) f0
        replace f1 := keepF hb (by omega) f1
        replace hr0 := keep hb hr0
        have HRV := Lib.hid hrv
        clear hrv
        have hk : Below w2.heap.size w2 w3 := by (repeat (first | assumption | exact Below.refl _ _ | refine Below.alloc ?_ (by (try simp) <;> omega) _ | refine below_drewN ?_ _ | refine Below.drew ?_ | refine Below.setCell ?_ (by (try simp) <;> omega) _ | refine Below.trans ?_ (Below.mono (by assumption) (by (try simp) <;> omega))))
        replace hB := hB.trans (hk.mono hB.size)
        have hzw3 := hB.size
        replace r0 := keep hk r0
        replace r1 := keep hk r1
        have lr0 := lt_of_cell r0
        clear hk hb
        go_wp2_with fail
        refine (close_any err ss (rs.set k (-1)) _ _ hL (hR.set k (-1) (.inl rfl)) _ (HR.out.below hB) HRV.out).mono ?_
        rintro e w4 ⟨rfl, hb⟩
        replace f0 := keepF hb (by omega) f0
        replace f1 := keepF hb (by omega) f1
        replace hr0 := keep hb hr0
        have hk : Below w3.heap.size w3 w4 := by (repeat (first | assumption | exact Below.refl _ _ | refine Below.alloc ?_ (by (try simp) <;> omega) _ | refine below_drewN ?_ _ | refine Below.drew ?_ | refine Below.setCell ?_ (by (try simp) <;> omega) _ | refine Below.trans ?_ (Below.mono (by assumption) (by (try simp) <;> omega))))
        replace hB := hB.trans (hk.mono hB.size)
        have hzw4 := hB.size
        replace r0 := keep hk r0
        replace r1 := keep hk r1
        have lr0 := lt_of_cell r0
        clear hk hb
        have hbd := closed_bd hL (hR.set k (-1) (.inl rfl))
        obtain ⟨M, hM⟩ : ∃ M, closed err ss (rs.set k (-1)) = M := ⟨_, rfl⟩
        rw [hM] at hbd ⊢
        have HM := Lib.hid hM
        clear hM
        by_cases hq4 : sound M = true
        · rw [hq4]
          go_wp2_with ((with_reducible refine wpList_store_fresh (o := ⟨none, .store 104 (.tmp 9) (.tmp 43), _, _, _, _⟩) rfl (.tmp 9) (.tmp 43) rfl w4.heap.size rfl ?hz ?hx M ?hy ?_); (case hz => rfl); (case hx => rfl); (case hy => rfl))
          have hT : TabAt (w4.alloc (.cells (tabCells M) 104)) w4.heap.size M := World.alloc_heap_new w4 _
          have hl6 := hL.len
          have hkk := below_alloc1 w4 (.cells (tabCells M) 104)
          replace r0 := keep hkk r0
          replace r1 := keep hkk r1
          replace f0 := keepF hkk (by omega) f0
          replace f1 := keepF hkk (by omega) f1
          replace hr0 := keep hkk hr0
          have hB3 : Below w.heap.size w (w4.alloc (.cells (tabCells M) 104)) := hB.trans (hkk.mono (by omega))
          clear hkk
          have c0 := hT.cell k 7 (by omega) (by omega)
          have c1 := hT.cell 7 k (by omega) (by omega)
          obtain ⟨W3, hW3⟩ : ∃ W, w4.alloc (.cells (tabCells M) 104) = W := ⟨_, rfl⟩
          rw [hW3] at c0 c1 r0 r1 f0 f1 hr0 hB3 ⊢
          clear hT hW3
          have b1 := hbd k 7
          have b2 := hbd 7 k
          have n1 : IntKind.i64.wrap (z - M k 7) = z - M k 7 := by simp [IntKind.wrap, IntKind.bits, IntKind.signed]; omega
          have n2 : IntKind.i64.wrap (z + M 7 k) = z + M 7 k := by simp [IntKind.wrap, IntKind.bits, IntKind.signed]; omega
          have k1 : (k : Int) < 8 := by omega
          clear hbd
          refine wp_calm ?_
          go_region
          all_goals refine onlyNormal_mk ?_
          all_goals go_wp2_with fail
          exact bodyPost_ret (v := .tuple #[.agg #[.int .i64 (z - M k 7), .int .i64 (z + M 7 k)], .int .i64 0]) (by simp [results, Tryz.results38, go_sem, *]) rfl ⟨by rw [E1.out, E2.out, HM.out, hq4]; rfl, by (repeat (first | assumption | exact Below.refl _ _ | refine Below.alloc ?_ (by (try simp) <;> omega) _ | refine below_drewN ?_ _ | refine Below.drew ?_ | refine Below.setCell ?_ (by (try simp) <;> omega) _ | refine Below.trans ?_ (Below.mono (by assumption) (by (try simp) <;> omega))))⟩
        · replace hq4 : sound M = false := by simpa using hq4
          rw [hq4]
          go_wp2_with ((with_reducible refine wpList_store_fresh (o := ⟨none, .store 104 (.tmp 9) (.tmp 43), _, _, _, _⟩) rfl (.tmp 9) (.tmp 43) rfl w4.heap.size rfl ?hz ?hx M ?hy ?_); (case hz => rfl); (case hx => rfl); (case hy => rfl))
          exact bodyPost_ret (v := .tuple #[.agg #[.int .i64 0, .int .i64 0], .int .i64 9]) (by simp [results, Tryz.results38, go_sem, *]) rfl ⟨by rw [E1.out, E2.out, HM.out, hq4]; rfl, by (repeat (first | assumption | exact Below.refl _ _ | refine Below.alloc ?_ (by (try simp) <;> omega) _ | refine below_drewN ?_ _ | refine Below.drew ?_ | refine Below.setCell ?_ (by (try simp) <;> omega) _ | refine Below.trans ?_ (Below.mono (by assumption) (by (try simp) <;> omega))))⟩
  · have t1 : (askErr err ss rs != 0) = true := by simp [hq1]
    have e1 : offErr err ss rs p = askErr err ss rs := by simp [offErr, hq1]
    have e2 : offAt err ss rs p = (0, 0) := by simp [offAt, e1, hq1]
    obtain ⟨q0, q1, q2, q3, q4, q5, q6, hov⟩ := openVal_cases err ss rs a a' ss.length rs.length c c'
    rw [hov]
    have E1 := Lib.hid e1
    have E2 := Lib.hid e2
    clear e1 e2 hov hq1
    obtain ⟨q, hq⟩ : ∃ q, askErr err ss rs = q := ⟨_, rfl⟩
    rw [hq] at t1 ⊢
    have HQ1 := Lib.hid hq
    clear hq
    go_wp2_with fail
    exact bodyPost_ret (v := .tuple #[.agg #[.int .i64 0, .int .i64 0], .int .i64 q]) (by simp [results, Tryz.results38, go_sem, *]) rfl ⟨by rw [E1.out, E2.out, HQ1.out], by (repeat (first | assumption | exact Below.refl _ _ | refine Below.alloc ?_ (by (try simp) <;> omega) _ | refine below_drewN ?_ _ | refine Below.drew ?_ | refine Below.setCell ?_ (by (try simp) <;> omega) _ | refine Below.trans ?_ (Below.mono (by assumption) (by (try simp) <;> omega))))⟩

end Go.Proofs.YtcncmlpppabbcaaGreat

namespace Go.Proofs.YtcncmlpppabbcaaGreat
set_option linter.unusedVariables false
set_option linter.unusedSimpArgs false
open Go.RowKit

set_option maxRecDepth 100000 in
set_option maxHeartbeats 1000000 in
theorem cheats1_any (err : Int) (ss : List Stp) (rs : List Int) (v rv : Value) (B k : Nat) (w : World) (hv : Rd w 4 v (stpRows ss)) (hr : Rd w 1 rv (ints rs)) (hL : LineOk err ss) (hR : ReadOk ss rs) (hk : k < rs.length)
    (l0 : w.cell? ⟨B, 0, none⟩ = some (.int .i64 err)) (l1 : w.cell? ⟨B, 1, none⟩ = some v) (l2 : w.cell? ⟨B, 2, none⟩ = some rv) :
    Calls Tryz.prog 69 #[.int .i64 k, .pointer (some ⟨B, 0, none⟩)] w fun e w' => e = .returned (.bool (sound (closed err ss (rs.set k (-1))))) ∧ Below w.heap.size w w' := by
  have hB := Below.refl w.heap.size w
  have HR := Lib.hid hv
  have HQ := Lib.hid hr
  obtain ⟨a, c, rfl, -, hm, -⟩ := hv
  obtain ⟨a', c', rfl, -, hm', -⟩ := hr
  have hsl := stpRows_length ss
  have hsl' := ints_length rs
  rw [hsl] at HR hm l1
  rw [hsl'] at HQ hm' l2
  clear hsl hsl'
  have hr7 : rs.length ≤ 100 := by have := hR.len; have := hL.len; omega
  go_enter Tryz.func69, Tryz.ntmps69
  go_wp2_with fail
  refine (without_any err rs a ss.length c _ k _ HQ.out hk hr7).mono ?_
  rintro e w3 ⟨rv', rfl, hrv, hb⟩
  have HRV := Lib.hid hrv
  clear hrv
  have hk : Below w.heap.size w w3 := by (repeat (first | assumption | exact Below.refl _ _ | refine Below.alloc ?_ (by (try simp) <;> omega) _ | refine below_drewN ?_ _ | refine Below.drew ?_ | refine Below.setCell ?_ (by (try simp) <;> omega) _ | refine Below.trans ?_ (Below.mono (by assumption) (by (try simp) <;> omega))))
  replace hB := hB.trans (hk.mono hB.size)
  have hzw3 := hB.size
  clear hk hb
  go_wp2_with fail
  refine (close_any err ss (rs.set k (-1)) _ _ hL (hR.set k (-1) (.inl rfl)) _ (HR.out.below hB) HRV.out).mono ?_
  rintro e w4 ⟨rfl, hb⟩
  have hk : Below w3.heap.size w3 w4 := by (repeat (first | assumption | exact Below.refl _ _ | refine Below.alloc ?_ (by (try simp) <;> omega) _ | refine below_drewN ?_ _ | refine Below.drew ?_ | refine Below.setCell ?_ (by (try simp) <;> omega) _ | refine Below.trans ?_ (Below.mono (by assumption) (by (try simp) <;> omega))))
  replace hB := hB.trans (hk.mono hB.size)
  have hzw4 := hB.size
  clear hk hb
  obtain ⟨M, hM⟩ : ∃ M, closed err ss (rs.set k (-1)) = M := ⟨_, rfl⟩
  rw [hM]
  have HM := Lib.hid hM
  clear hM
  go_wp2_with ((with_reducible refine wpList_store_fresh (o := ⟨none, .store 104 (.tmp 4) (.tmp 11), _, _, _, _⟩) rfl (.tmp 4) (.tmp 11) rfl w4.heap.size rfl ?hz ?hx M ?hy ?_); (case hz => rfl); (case hx => rfl); (case hy => rfl))
  go_ret
  exact ⟨by rw [HM.out]; rfl, by (repeat (first | assumption | exact Below.refl _ _ | refine Below.alloc ?_ (by (try simp) <;> omega) _ | refine below_drewN ?_ _ | refine Below.drew ?_ | refine Below.setCell ?_ (by (try simp) <;> omega) _ | refine Below.trans ?_ (Below.mono (by assumption) (by (try simp) <;> omega))))⟩

end Go.Proofs.YtcncmlpppabbcaaGreat
