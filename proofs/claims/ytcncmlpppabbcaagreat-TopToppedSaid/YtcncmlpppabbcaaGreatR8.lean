/- The walks of the reference's comparisons of lists, Ints and Spans. The walk of the reference's Spans. The walks of the laws' examples: Line, Readings, Sort, Bags. -/
import Derived.Test.YtcncmlpppabbcaaGreatW5
import Derived.BigRegion
namespace Go.Proofs.YtcncmlpppabbcaaGreat
set_option linter.unusedVariables false
set_option linter.unusedSimpArgs false
open Go.RowKit

set_option maxHeartbeats 400000 in
theorem refInts_any (v u : Value) (xs ys : List Int) (w : World) (h : Rd w 1 v (ints xs)) (h' : Rd w 1 u (ints ys)) :
    Calls Tryz.prog 45 #[v, u] w fun e w' => e = .returned (.bool (decide (xs = ys))) ∧ Below w.heap.size w w' := by
  obtain ⟨a, c, rfl, -, hm, hr⟩ := h.ints
  obtain ⟨a', c', rfl, -, hm', hr'⟩ := h'.ints
  have H := Lib.hid hr
  have H' := Lib.hid hr'
  clear hr hr' h h'
  go_enter Tryz.func45, Tryz.ntmps45
  by_cases hl : xs.length = ys.length
  · have hl' : ((xs.length : Int) != (ys.length : Int)) = false := by rw [bne_eq_false_iff_eq]; omega
    have HL := Lib.hid hl
    go_wp2_with fail
    go_loopw [5] (fun i wr => ∃ k : Nat, k ≤ xs.length ∧ i = .int .i64 k ∧ Below w.heap.size w wr ∧ Hid (∀ j (hj : j < k) (h1 : j < xs.length) (h2 : j < ys.length), xs[j] = ys[j])) (fun i _ => xs.length - (intOf i).toNat)
    case atStart => exact ⟨0, Nat.zero_le _, rfl, Below.refl _ _, fun j hj => absurd hj (Nat.not_lt_zero _)⟩
    case round =>
      obtain ⟨k, hk, rfl, hB, A⟩ := hrel
      have hzB := hB.size
      by_cases hlt : k < xs.length
      · have hlt' : (k : Int) < xs.length := by omega
        have hlt2 : (k : Int) < ys.length := by omega
        obtain ⟨b, off, rfl, hb, hc⟩ := H.out (by omega)
        obtain ⟨b', off', rfl, hb', hc'⟩ := H'.out (by omega)
        have g1 := hc k hlt
        have hk2 : k < ys.length := by omega
        have g2 := hc' k hk2
        clear hc hc'
        rw [← hB.cell (p := ⟨b, _, none⟩) hb] at g1
        rw [← hB.cell (p := ⟨b', _, none⟩) hb'] at g2
        obtain ⟨x, hx⟩ : ∃ x, xs[k] = x := ⟨_, rfl⟩
        obtain ⟨y, hy⟩ : ∃ y, ys[k] = y := ⟨_, rfl⟩
        rw [hx] at g1
        rw [hy] at g2
        have HX := Lib.hid hx
        have HY := Lib.hid hy
        clear hx hy hl
        by_cases hq : x = y
        · subst hq
          go_wp2_with fail
          go_region
          all_goals go_wp2_with fail
          all_goals go_roundw
          case rel =>
            refine ⟨k + 1, by omega, by go_num, hB.drew, fun j hj h1 h2 => ?_⟩
            by_cases e : j = k
            · subst e; rw [HX.out, HY.out]
            · exact A.out j (by omega) h1 h2
          case measure => simp [intOf]; omega
        · have t1 : (x != y) = true := by rw [bne_iff_ne]; exact hq
          have hne : decide (xs = ys) = false := by
            rw [decide_eq_false_iff_not]
            intro e
            subst e
            exact hq (HX.out.symm.trans HY.out)
          have HNE := Lib.hid hne
          clear hne
          go_wp2_with fail
          go_region
          all_goals go_wp2_with fail
          go_ret
          exact ⟨ret_bool HNE.out.symm, by (repeat (first | assumption | exact Below.refl _ _ | refine Below.alloc ?_ (by (try simp) <;> omega) _ | refine below_drewN ?_ _ | refine Below.drew ?_ | refine Below.setCell ?_ (by (try simp) <;> omega) _ | refine Below.trans ?_ (Below.mono (by assumption) (by (try simp) <;> omega))))⟩
      · obtain rfl : k = xs.length := by omega
        have he : decide (xs = ys) = true := by
          rw [decide_eq_true_eq]
          exact List.ext_getElem HL.out fun j h1 h2 => A.out j h1 h1 h2
        have HE := Lib.hid he
        clear he
        go_wp2_with fail
        go_ret
        exact ⟨ret_bool HE.out.symm, hB⟩
  · have hl' : ((xs.length : Int) != (ys.length : Int)) = true := by rw [bne_iff_ne]; omega
    go_wp2_with fail
    go_ret
    exact ⟨ret_bool (by symm; rw [decide_eq_false_iff_not]; intro e; exact hl (by rw [e])), Below.refl _ _⟩

end Go.Proofs.YtcncmlpppabbcaaGreat

namespace Go.Proofs.YtcncmlpppabbcaaGreat
set_option linter.unusedVariables false
set_option linter.unusedSimpArgs false
open Go.RowKit

set_option maxHeartbeats 400000 in
theorem refSpans_any (v u : Value) (xs ys : List (Int × Int)) (w : World) (h : Rd w 2 v (spanRows xs)) (h' : Rd w 2 u (spanRows ys)) :
    Calls Tryz.prog 43 #[v, u] w fun e w' => e = .returned (.bool (decide (xs = ys))) ∧ Below w.heap.size w w' := by
  obtain ⟨a, c, rfl, -, hm, hr⟩ := h.spans
  obtain ⟨a', c', rfl, -, hm', hr'⟩ := h'.spans
  have H := Lib.hid hr
  have H' := Lib.hid hr'
  clear hr hr' h h'
  go_enter Tryz.func43, Tryz.ntmps43
  by_cases hl : xs.length = ys.length
  · have hl' : ((xs.length : Int) != (ys.length : Int)) = false := by rw [bne_eq_false_iff_eq]; omega
    have HL := Lib.hid hl
    go_wp2_with fail
    go_loopw [5] (fun i wr => ∃ k : Nat, k ≤ xs.length ∧ i = .int .i64 k ∧ Below w.heap.size w wr ∧ Hid (∀ j (hj : j < k) (h1 : j < xs.length) (h2 : j < ys.length), xs[j] = ys[j])) (fun i _ => xs.length - (intOf i).toNat)
    case atStart => exact ⟨0, Nat.zero_le _, rfl, Below.refl _ _, fun j hj => absurd hj (Nat.not_lt_zero _)⟩
    case round =>
      obtain ⟨k, hk, rfl, hB, A⟩ := hrel
      have hzB := hB.size
      by_cases hlt : k < xs.length
      · have hlt' : (k : Int) < xs.length := by omega
        have hlt2 : (k : Int) < ys.length := by omega
        obtain ⟨b, off, rfl, hb, hc⟩ := H.out (by omega)
        obtain ⟨b', off', rfl, hb', hc'⟩ := H'.out (by omega)
        have hk2 : k < ys.length := by omega
        obtain ⟨g1, g3⟩ := hc k hlt
        obtain ⟨g2, g4⟩ := hc' k hk2
        clear hc hc'
        rw [← hB.cell (p := ⟨b, _, none⟩) hb] at g1 g3
        rw [← hB.cell (p := ⟨b', _, none⟩) hb'] at g2 g4
        obtain ⟨x, hx⟩ : ∃ x, xs[k] = x := ⟨_, rfl⟩
        obtain ⟨y, hy⟩ : ∃ y, ys[k] = y := ⟨_, rfl⟩
        rw [hx] at g1 g3
        rw [hy] at g2 g4
        have HX := Lib.hid hx
        have HY := Lib.hid hy
        clear hx hy hl
        obtain ⟨x1, x2⟩ := x
        obtain ⟨y1, y2⟩ := y
        dsimp only at g1 g2 g3 g4
        by_cases hq : (x1, x2) = (y1, y2)
        · obtain ⟨rfl, rfl⟩ : x1 = y1 ∧ x2 = y2 := by simpa using hq
          clear hq
          go_wp2_with fail
          go_region
          all_goals go_wp2_with fail
          all_goals go_roundw
          case rel =>
            refine ⟨k + 1, by omega, by go_num, hB.drew, fun j hj h1 h2 => ?_⟩
            by_cases e : j = k
            · subst e; rw [HX.out, HY.out]
            · exact A.out j (by omega) h1 h2
          case measure => simp [intOf]; omega
        · have hne : decide (xs = ys) = false := by
            rw [decide_eq_false_iff_not]
            intro e
            subst e
            exact hq (HX.out.symm.trans HY.out)
          have HNE := Lib.hid hne
          by_cases e1 : x1 = y1
          · subst e1
            have e2 : ¬ x2 = y2 := by simpa using hq
            clear hne hq
            go_wp2_with fail
            go_region
            all_goals go_wp2_with fail
            go_ret
            exact ⟨ret_bool HNE.out.symm, by (repeat (first | assumption | exact Below.refl _ _ | refine Below.alloc ?_ (by (try simp) <;> omega) _ | refine below_drewN ?_ _ | refine Below.drew ?_ | refine Below.setCell ?_ (by (try simp) <;> omega) _ | refine Below.trans ?_ (Below.mono (by assumption) (by (try simp) <;> omega))))⟩
          · clear hne hq
            go_wp2_with fail
            go_region
            all_goals go_wp2_with fail
            go_ret
            exact ⟨ret_bool HNE.out.symm, by (repeat (first | assumption | exact Below.refl _ _ | refine Below.alloc ?_ (by (try simp) <;> omega) _ | refine below_drewN ?_ _ | refine Below.drew ?_ | refine Below.setCell ?_ (by (try simp) <;> omega) _ | refine Below.trans ?_ (Below.mono (by assumption) (by (try simp) <;> omega))))⟩
      · obtain rfl : k = xs.length := by omega
        have he : decide (xs = ys) = true := by
          rw [decide_eq_true_eq]
          exact List.ext_getElem HL.out fun j h1 h2 => A.out j h1 h1 h2
        have HE := Lib.hid he
        clear he
        go_wp2_with fail
        go_ret
        exact ⟨ret_bool HE.out.symm, hB⟩
  · have hl' : ((xs.length : Int) != (ys.length : Int)) = true := by rw [bne_iff_ne]; omega
    go_wp2_with fail
    go_ret
    exact ⟨ret_bool (by symm; rw [decide_eq_false_iff_not]; intro e; exact hl (by rw [e])), Below.refl _ _⟩

end Go.Proofs.YtcncmlpppabbcaaGreat

namespace Go.Proofs.YtcncmlpppabbcaaGreat
set_option linter.unusedVariables false
set_option linter.unusedSimpArgs false
open Go.RowKit

/-- The line of the examples. -/
def exLine : List Stp := [⟨⟨#[109, 101, 108, 116]⟩, 0, 100, 20⟩, ⟨⟨#[115, 116, 114, 97, 105, 110]⟩, 50, 150, 20⟩, ⟨⟨#[112, 111, 117, 114]⟩, 0, 30, 10⟩]
/-- The bags of the examples. -/
def exBags : List Bag := [⟨500, 520, 1⟩, ⟨40, 60, 3⟩, ⟨100, 110, 2⟩]

def RetRd (k : Nat) (rows : List (List Value)) (w : World) (e : Ending) (w' : World) : Prop := ∃ v, e = .returned v ∧ Rd w' k v rows ∧ Below w.heap.size w w'

set_option maxHeartbeats 400000 in
theorem readings_any (a b : Int) (w : World) : Calls Tryz.prog 36 #[.int .i64 a, .int .i64 b] w (RetRd 1 (ints [a, -1, 820, b]) w) := by
  go_enter Tryz.func36, Tryz.ntmps36
  go_wp2_with fail
  go_ret
  exact ⟨_, rfl, Rd.made4 _ _ _ _ _ _ _ rfl, below_alloc1 _ _⟩

set_option maxHeartbeats 400000 in
theorem sort_any (f : Int) (w : World) : Calls Tryz.prog 40 #[.int .i64 f] w fun e w' => e = .returned (.agg #[.int .i64 1, .int .i64 f]) ∧ Below w.heap.size w w' := by
  go_enter Tryz.func40, Tryz.ntmps40
  go_wp2_with fail
  exact bodyPost_ret (v := .agg #[.int .i64 1, .int .i64 f]) (by simp [results, Tryz.results40, go_sem]) rfl ⟨rfl, below_alloc1 _ _⟩

theorem rd_new (w w0 : World) (B H k : Nat) (rows : List (List Value)) (t : TypeId) (hH : w.heap.size = H) (hl : ∀ r ∈ rows, r.length = k) (h0 : 0 < rows.length) (hm : rows.length ≤ 1000) : Rd (w.alloc (.cells rows.flatten.toArray t)) k (.slice (some ⟨H, 0, none⟩) rows.length rows.length) rows := by
  subst hH
  refine ⟨_, _, rfl, Nat.le_refl _, by omega, hl, fun _ => ⟨_, _, rfl, by simp, ?_⟩⟩
  intro j r hj i x hi
  have := getElem?_flatten_const hl j r hj i x hi
  rw [Nat.zero_add, cell_new_lit]
  exact this

set_option maxHeartbeats 400000 in
theorem bags_any (w : World) : Calls Tryz.prog 41 #[] w (RetRd 3 (bagRows exBags) w) := by
  have hB := Below.refl w.heap.size w
  go_enter Tryz.func41, Tryz.ntmps41
  go_wp2_with fail
  refine (span_any 500 520 _).mono ?_
  rintro e w1 ⟨rfl, hb⟩
  have hk : Below w.heap.size w w1 := by (repeat (first | assumption | exact Below.refl _ _ | refine Below.alloc ?_ (by (try simp) <;> omega) _ | refine below_drewN ?_ _ | refine Below.drew ?_ | refine Below.setCell ?_ (by (try simp) <;> omega) _ | refine Below.trans ?_ (Below.mono (by assumption) (by (try simp) <;> omega))))
  replace hB := hB.trans (hk.mono hB.size)
  have hzw1 := hB.size
  clear hk hb
  go_wp2_with fail
  refine (span_any 40 60 _).mono ?_
  rintro e w2 ⟨rfl, hb⟩
  have hk : Below w1.heap.size w1 w2 := by (repeat (first | assumption | exact Below.refl _ _ | refine Below.alloc ?_ (by (try simp) <;> omega) _ | refine below_drewN ?_ _ | refine Below.drew ?_ | refine Below.setCell ?_ (by (try simp) <;> omega) _ | refine Below.trans ?_ (Below.mono (by assumption) (by (try simp) <;> omega))))
  replace hB := hB.trans (hk.mono hB.size)
  have hzw2 := hB.size
  clear hk hb
  go_wp2_with fail
  refine (span_any 100 110 _).mono ?_
  rintro e w3 ⟨rfl, hb⟩
  have hk : Below w2.heap.size w2 w3 := by (repeat (first | assumption | exact Below.refl _ _ | refine Below.alloc ?_ (by (try simp) <;> omega) _ | refine below_drewN ?_ _ | refine Below.drew ?_ | refine Below.setCell ?_ (by (try simp) <;> omega) _ | refine Below.trans ?_ (Below.mono (by assumption) (by (try simp) <;> omega))))
  replace hB := hB.trans (hk.mono hB.size)
  have hzw3 := hB.size
  clear hk hb
  go_wp2_with fail
  go_ret
  exact ⟨_, rfl, rd_new w3 w 0 _ 3 (bagRows exBags) _ rfl (by simp [bagRows, exBags, Bag.row]) (by decide) (by decide), by (repeat (first | assumption | exact Below.refl _ _ | refine Below.alloc ?_ (by (try simp) <;> omega) _ | refine below_drewN ?_ _ | refine Below.drew ?_ | refine Below.setCell ?_ (by (try simp) <;> omega) _ | refine Below.trans ?_ (Below.mono (by assumption) (by (try simp) <;> omega))))⟩

set_option maxHeartbeats 400000 in
theorem line_any (w : World) : Calls Tryz.prog 35 #[] w fun e w' => ∃ v, e = .returned (.agg #[.int .i64 50, v]) ∧ Rd w' 4 v (stpRows exLine) ∧ Below w.heap.size w w' := by
  have hB := Below.refl w.heap.size w
  go_enter Tryz.func35, Tryz.ntmps35
  go_wp2_with fail
  refine (span_any 0 100 _).mono ?_
  rintro e w1 ⟨rfl, hb⟩
  have r0 : w1.cell? ⟨w.heap.size, 0, none⟩ = some (.int .i64 0) := keep hb (by simp [go_sem])
  have r1 : w1.cell? ⟨w.heap.size, 1, none⟩ = some (.slice none 0 0) := keep hb (by simp [go_sem])
  have f0 : w1.frozen? ⟨w.heap.size, 0, none⟩ = false := keepF hb (by simp) (by simp [go_sem])
  have f1 : w1.frozen? ⟨w.heap.size, 1, none⟩ = false := keepF hb (by simp) (by simp [go_sem])
  have hk : Below w.heap.size w w1 := by (repeat (first | assumption | exact Below.refl _ _ | refine Below.alloc ?_ (by (try simp) <;> omega) _ | refine below_drewN ?_ _ | refine Below.drew ?_ | refine Below.setCell ?_ (by (try simp) <;> omega) _ | refine Below.trans ?_ (Below.mono (by assumption) (by (try simp) <;> omega))))
  replace hB := hB.trans (hk.mono hB.size)
  have hzw1 := hB.size
  clear hk hb
  have lr := lt_of_cell r0
  go_wp2_with fail
  refine (span_any 50 150 _).mono ?_
  rintro e w2 ⟨rfl, hb⟩
  replace f0 := keepF hb lr f0
  replace f1 := keepF hb lr f1
  have hk : Below w1.heap.size w1 w2 := by (repeat (first | assumption | exact Below.refl _ _ | refine Below.alloc ?_ (by (try simp) <;> omega) _ | refine below_drewN ?_ _ | refine Below.drew ?_ | refine Below.setCell ?_ (by (try simp) <;> omega) _ | refine Below.trans ?_ (Below.mono (by assumption) (by (try simp) <;> omega))))
  replace hB := hB.trans (hk.mono hB.size)
  have hzw2 := hB.size
  replace r0 := keep hk r0
  replace r1 := keep hk r1
  have lr0 := lt_of_cell r0
  clear hk hb
  go_wp2_with fail
  refine (span_any 0 30 _).mono ?_
  rintro e w3 ⟨rfl, hb⟩
  replace f0 := keepF hb (by omega) f0
  replace f1 := keepF hb (by omega) f1
  have hk : Below w2.heap.size w2 w3 := by (repeat (first | assumption | exact Below.refl _ _ | refine Below.alloc ?_ (by (try simp) <;> omega) _ | refine below_drewN ?_ _ | refine Below.drew ?_ | refine Below.setCell ?_ (by (try simp) <;> omega) _ | refine Below.trans ?_ (Below.mono (by assumption) (by (try simp) <;> omega))))
  replace hB := hB.trans (hk.mono hB.size)
  have hzw3 := hB.size
  replace r0 := keep hk r0
  replace r1 := keep hk r1
  have lr0 := lt_of_cell r0
  clear hk hb
  go_wp2_with fail
  refine bodyPost_ret (v := .agg #[.int .i64 50, .slice (some ⟨w3.heap.size, 0, none⟩) 3 3]) (by simp [results, Tryz.results35, go_sem, *]) rfl ⟨_, rfl, ?_, by (repeat (first | assumption | exact Below.refl _ _ | refine Below.alloc ?_ (by (try simp) <;> omega) _ | refine below_drewN ?_ _ | refine Below.drew ?_ | refine Below.setCell ?_ (by (try simp) <;> omega) _ | refine Below.trans ?_ (Below.mono (by assumption) (by (try simp) <;> omega))))⟩
  exact rd_new _ w 0 _ 4 (stpRows exLine) 41 (by simp) (by simp [stpRows, exLine, Stp.row]) (by decide) (by decide)

end Go.Proofs.YtcncmlpppabbcaaGreat
