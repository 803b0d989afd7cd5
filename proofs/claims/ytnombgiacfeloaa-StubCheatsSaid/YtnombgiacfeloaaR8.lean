/- The walks of the laws' examples: Line, Readings, Sort, Bags. -/
import Derived.Test.YtnombgiacfeloaaR7
namespace Go.Proofs.Ytnombgiacfeloaa
set_option linter.unusedVariables false
set_option linter.unusedSimpArgs false
open Go.RowKit

/-- The line of the examples. -/
def exLine : List Stp := [⟨⟨#[109, 101, 108, 116]⟩, 0, 100, 20⟩, ⟨⟨#[115, 116, 114, 97, 105, 110]⟩, 50, 150, 20⟩, ⟨⟨#[112, 111, 117, 114]⟩, 0, 30, 10⟩]
/-- The bags of the examples. -/
def exBags : List Bag := [⟨500, 520, 1⟩, ⟨40, 60, 3⟩, ⟨100, 110, 2⟩]

def RetRd (k : Nat) (rows : List (List Value)) (w : World) (e : Ending) (w' : World) : Prop := ∃ v, e = .returned v ∧ Rd w' k v rows ∧ Below w.heap.size w w'

set_option maxHeartbeats 400000 in
theorem readings_any (a b : Int) (w : World) : Calls Try.prog 35 #[.int .i64 a, .int .i64 b] w (RetRd 1 (ints [a, -1, 820, b]) w) := by
  go_enter Try.func35, Try.ntmps35
  go_wp2_with fail
  go_ret
  exact ⟨_, rfl, Rd.made4 _ _ _ _ _ _ _ rfl, below_alloc1 _ _⟩

set_option maxHeartbeats 400000 in
theorem sort_any (f : Int) (w : World) : Calls Try.prog 36 #[.int .i64 f] w fun e w' => e = .returned (.agg #[.int .i64 1, .int .i64 f]) ∧ Below w.heap.size w w' := by
  go_enter Try.func36, Try.ntmps36
  go_wp2_with fail
  exact bodyPost_ret (v := .agg #[.int .i64 1, .int .i64 f]) (by simp [results, Try.results36, go_sem]) rfl ⟨rfl, below_alloc1 _ _⟩

theorem rd_new (w w0 : World) (B H k : Nat) (rows : List (List Value)) (t : TypeId) (hH : w.heap.size = H) (hl : ∀ r ∈ rows, r.length = k) (h0 : 0 < rows.length) (hm : rows.length ≤ 1000) : Rd (w.alloc (.cells rows.flatten.toArray t)) k (.slice (some ⟨H, 0, none⟩) rows.length rows.length) rows := by
  subst hH
  refine ⟨_, _, rfl, Nat.le_refl _, by omega, hl, fun _ => ⟨_, _, rfl, by simp, ?_⟩⟩
  intro j r hj i x hi
  have := getElem?_flatten_const hl j r hj i x hi
  rw [Nat.zero_add, cell_new_lit]
  exact this

set_option maxHeartbeats 400000 in
theorem bags_any (w : World) : Calls Try.prog 37 #[] w (RetRd 3 (bagRows exBags) w) := by
  have hB := Below.refl w.heap.size w
  go_enter Try.func37, Try.ntmps37
  go_wp2_with fail
  refine (span_any 500 520 _).mono ?_
  rintro e w1 ⟨rfl, hb⟩
  have hk : Below w.heap.size w w1 := by (repeat (first | assumption | exact Below.refl _ _ | refine Below.alloc ?_ (by (try simp) <;> omega) _ | refine below_drewN ?_ _ | refine Below.drew ?_ | refine Below.setCell ?_ (by (try simp) <;> omega) _ | refine Below.trans ?_ (Below.mono (by assumption) (by (try simp) <;> omega))))
  replace hB := hB.trans (hk.mono hB.size)
  have hzw1 := hB.size
  clear hk hb
  go_wp2_with fail
  refine (span_any 40 60 _).mono ?_
  rintro e w2 ⟨rfl, hb⟩
  have hk : Below w1.heap.size w1 w2 := by (repeat (first | assumption | exact Below.refl _ _ | refine Below.alloc ?_ (by (try simp) <;> omega) _ | refine below_drewN ?_ _ | refine Below.drew ?_ | refine Below.setCell ?_ (by (try simp) <;> omega) _ | refine Below.trans ?_ (Below.mono (by assumption) (by (try simp) <;> omega))))
  replace hB := hB.trans (hk.mono hB.size)
  have hzw2 := hB.size
  clear hk hb
  go_wp2_with fail
  refine (span_any 100 110 _).mono ?_
  rintro e w3 ⟨rfl, hb⟩
  have hk : Below w2.heap.size w2 w3 := by (repeat (first | assumption | exact Below.refl _ _ | refine Below.alloc ?_ (by (try simp) <;> omega) _ | refine below_drewN ?_ _ | refine Below.drew ?_ | refine Below.setCell ?_ (by (try simp) <;> omega) _ | refine Below.trans ?_ (Below.mono (by assumption) (by (try simp) <;> omega))))
  replace hB := hB.trans (hk.mono hB.size)
  have hzw3 := hB.size
  clear hk hb
  go_wp2_with fail
  go_ret
  exact ⟨_, rfl, rd_new w3 w 0 _ 3 (bagRows exBags) _ rfl (by simp [bagRows, exBags, Bag.row]) (by decide) (by decide), by (repeat (first | assumption | exact Below.refl _ _ | refine Below.alloc ?_ (by (try simp) <;> omega) _ | refine below_drewN ?_ _ | refine Below.drew ?_ | refine Below.setCell ?_ (by (try simp) <;> omega) _ | refine Below.trans ?_ (Below.mono (by assumption) (by (try simp) <;> omega))))⟩

set_option maxHeartbeats 400000 in
theorem line_any (w : World) : Calls Try.prog 34 #[] w fun e w' => ∃ v, e = .returned (.agg #[.int .i64 50, v]) ∧ Rd w' 4 v (stpRows exLine) ∧ Below w.heap.size w w' := by
  have hB := Below.refl w.heap.size w
  go_enter Try.func34, Try.ntmps34
  go_wp2_with fail
  refine (span_any 0 100 _).mono ?_
  rintro e w1 ⟨rfl, hb⟩
  have r0 : w1.cell? ⟨w.heap.size, 0, none⟩ = some (.int .i64 0) := keep hb (by simp [go_sem])
  have r1 : w1.cell? ⟨w.heap.size, 1, none⟩ = some (.slice none 0 0) := keep hb (by simp [go_sem])
  have f0 : w1.frozen? ⟨w.heap.size, 0, none⟩ = false := keepF hb (by simp) (by simp [go_sem])
  have f1 : w1.frozen? ⟨w.heap.size, 1, none⟩ = false := keepF hb (by simp) (by simp [go_sem])
  have hk : Below w.heap.size w w1 := by (repeat (first | assumption | exact Below.refl _ _ | refine Below.alloc ?_ (by (try simp) <;> omega) _ | refine below_drewN ?_ _ | refine Below.drew ?_ | refine Below.setCell ?_ (by (try simp) <;> omega) _ | refine Below.trans ?_ (Below.mono (by assumption) (by (try simp) <;> omega))))
  replace hB := hB.trans (hk.mono hB.size)
  have hzw1 := hB.size
  clear hk hb
  have lr := lt_of_cell r0
  go_wp2_with fail
  refine (span_any 50 150 _).mono ?_
  rintro e w2 ⟨rfl, hb⟩
  replace f0 := keepF hb lr f0
  replace f1 := keepF hb lr f1
  have hk : Below w1.heap.size w1 w2 := by (repeat (first | assumption | exact Below.refl _ _ | refine Below.alloc ?_ (by (try simp) <;> omega) _ | refine below_drewN ?_ _ | refine Below.drew ?_ | refine Below.setCell ?_ (by (try simp) <;> omega) _ | refine Below.trans ?_ (Below.mono (by assumption) (by (try simp) <;> omega))))
  replace hB := hB.trans (hk.mono hB.size)
  have hzw2 := hB.size
  replace r0 := keep hk r0
  replace r1 := keep hk r1
  have lr0 := lt_of_cell r0
  clear hk hb
  go_wp2_with fail
  refine (span_any 0 30 _).mono ?_
  rintro e w3 ⟨rfl, hb⟩
  replace f0 := keepF hb (by omega) f0
  replace f1 := keepF hb (by omega) f1
  have hk : Below w2.heap.size w2 w3 := by (repeat (first | assumption | exact Below.refl _ _ | refine Below.alloc ?_ (by (try simp) <;> omega) _ | refine below_drewN ?_ _ | refine Below.drew ?_ | refine Below.setCell ?_ (by (try simp) <;> omega) _ | refine Below.trans ?_ (Below.mono (by assumption) (by (try simp) <;> omega))))
  replace hB := hB.trans (hk.mono hB.size)
  have hzw3 := hB.size
  replace r0 := keep hk r0
  replace r1 := keep hk r1
  have lr0 := lt_of_cell r0
  clear hk hb
  go_wp2_with fail
  refine bodyPost_ret (v := .agg #[.int .i64 50, .slice (some ⟨w3.heap.size, 0, none⟩) 3 3]) (by simp [results, Try.results34, go_sem, *]) rfl ⟨_, rfl, ?_, by (repeat (first | assumption | exact Below.refl _ _ | refine Below.alloc ?_ (by (try simp) <;> omega) _ | refine below_drewN ?_ _ | refine Below.drew ?_ | refine Below.setCell ?_ (by (try simp) <;> omega) _ | refine Below.trans ?_ (Below.mono (by assumption) (by (try simp) <;> omega))))⟩
  exact rd_new _ w 0 _ 4 (stpRows exLine) 76 (by simp) (by simp [stpRows, exLine, Stp.row]) (by decide) (by decide)

end Go.Proofs.Ytnombgiacfeloaa
