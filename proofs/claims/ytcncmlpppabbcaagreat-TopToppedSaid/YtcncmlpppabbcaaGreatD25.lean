/- Small walks of the mould's reference and law: Shrinks, turn, among, end, Mould. -/
import Derived.Test.YtcncmlpppabbcaaGreatD2
import Derived.BigQuiet
import Derived.Deep.Cut
namespace Go.Proofs.YtcncmlpppabbcaaGreat
set_option linter.unusedVariables false
set_option linter.unusedSimpArgs false
open Go.RowKit
attribute [local go_sem] Oper.semAt_some

set_option maxHeartbeats 400000 in
theorem shrinks_any (m : Mo) (hm : MoOk m) (i : Int) (hi : 0 ≤ i ∧ i ≤ 8) (w : World) :
    Calls Tryz.prog 53 #[.agg m.cells, .int .i64 i] w fun e w' => e = .returned (.int .i64 (m.shrink * (2 * (m.rings - i) - 1))) ∧ Below w.heap.size w w' := by
  obtain ⟨r1, r2⟩ := hm.rings
  obtain ⟨s1, s2⟩ := hm.shrink
  obtain ⟨i1, i2⟩ := hi
  have b1 : 0 ≤ m.shrink * (1 + 2 * (m.rings - 1 - i)) + 10000 := by
    have h := Int.mul_nonneg s1 (show (0 : Int) ≤ 1 + 2 * (m.rings - 1 - i) + 20 by omega)
    rw [Int.mul_add] at h
    omega
  have b2 : m.shrink * (1 + 2 * (m.rings - 1 - i)) ≤ 10000 := by
    have h := Int.mul_nonneg s1 (show (0 : Int) ≤ 20 - (1 + 2 * (m.rings - 1 - i)) by omega)
    rw [Int.mul_sub] at h
    omega
  have e : m.shrink * (1 + 2 * (m.rings - 1 - i)) = m.shrink * (2 * (m.rings - i) - 1) := by congr 1; omega
  have e1 : IntKind.i64.wrap (m.rings - 1) = m.rings - 1 := IntWalk.i64_in _ (by omega)
  have e2 : IntKind.i64.wrap (m.rings - 1 - i) = m.rings - 1 - i := IntWalk.i64_in _ (by omega)
  have e3 : IntKind.i64.wrap (2 * (m.rings - 1 - i)) = 2 * (m.rings - 1 - i) := IntWalk.i64_in _ (by omega)
  have e4 : IntKind.i64.wrap (1 + 2 * (m.rings - 1 - i)) = 1 + 2 * (m.rings - 1 - i) := IntWalk.i64_in _ (by omega)
  have e5 : IntKind.i64.wrap (m.shrink * (1 + 2 * (m.rings - 1 - i))) = m.shrink * (2 * (m.rings - i) - 1) := (IntWalk.i64_in _ (by omega)).trans e
  clear hm e b1 b2
  unfold Mo.cells
  go_enter Tryz.func53, Tryz.ntmps53
  go_wp2_with fail
  go_ret
  exact ⟨rfl, below_alloc1 _ _⟩

def us (xs : List Int) : List (List Value) := xs.map fun z => [.int .u16 z]
theorem Rd.us {w : World} {v : Value} {zs : List Int} (h : Rd w 1 v (us zs)) :
    ∃ a c, v = .slice a zs.length c ∧ zs.length ≤ c ∧ zs.length ≤ 9223372036854775807 ∧ (0 < zs.length → ∃ b off, a = some ⟨b, off, none⟩ ∧ b < w.heap.size ∧ ∀ j (hj : j < zs.length), w.cell? ⟨b, off + j, none⟩ = some (.int .u16 zs[j])) := by
  obtain ⟨a, c, hv, hc, hm, hl, hr⟩ := h
  have e : (YtcncmlpppabbcaaGreat.us zs).length = zs.length := by simp [YtcncmlpppabbcaaGreat.us]
  rw [e] at hv hc hm hr
  refine ⟨a, c, hv, hc, hm, fun h0 => ?_⟩
  obtain ⟨b, off, ha, hlt, hcell⟩ := hr h0
  exact ⟨b, off, ha, hlt, fun j hj => by
    have := hcell j [.int .u16 zs[j]] (by simp [YtcncmlpppabbcaaGreat.us, hj]) 0 (.int .u16 zs[j]) rfl
    simpa using this⟩

/-- The n-th number of a list, by turns. -/
def turnV (xs : List Int) (n : Nat) : Int := xs.getD (n % xs.length) 0
theorem turnV_bd {xs : List Int} (h : ∀ x ∈ xs, 0 ≤ x ∧ x ≤ 65535) (n : Nat) : 0 ≤ turnV xs n ∧ turnV xs n ≤ 65535 := by
  unfold turnV
  by_cases hl : n % xs.length < xs.length
  · have := h xs[n % xs.length] (List.getElem_mem _)
    simpa [List.getD, hl] using this
  · have e : xs.getD (n % xs.length) 0 = 0 := by simp [List.getD, List.getElem?_eq_none (Nat.le_of_not_lt hl)]
    rw [e]; omega

set_option maxHeartbeats 400000 in
theorem turn_any (v : Value) (xs : List Int) (n : Nat) (hn : n ≤ 1000) (hb : ∀ x ∈ xs, 0 ≤ x ∧ x ≤ 65535) (w : World) (h : Rd w 1 v (us xs)) :
    Calls Tryz.prog 56 #[v, .int .i64 n] w fun e w' => e = .returned (.int .i64 (turnV xs n)) ∧ w = w' := by
  obtain ⟨a, c, rfl, -, hm, hr⟩ := h.us
  by_cases h0 : xs.length = 0
  · have t : ((xs.length : Int) == 0) = true := by rw [beq_iff_eq]; omega
    have e : turnV xs n = 0 := by
      have : xs = [] := List.length_eq_zero_iff.1 h0
      subst this
      rfl
    have E := Lib.hid e
    clear h hr hb e
    go_enter Tryz.func56, Tryz.ntmps56
    go_wp2_with fail
    go_ret
    exact ⟨ret_int E.out.symm, rfl⟩
  · have hlt : n % xs.length < xs.length := Nat.mod_lt _ (by omega)
    obtain ⟨b, off, rfl, -, hc⟩ := hr (by omega)
    have c1 := hc _ hlt
    have bd := hb xs[n % xs.length] (List.getElem_mem _)
    have e : turnV xs n = xs[n % xs.length] := by unfold turnV; simp [List.getD, hlt]
    have t : ((xs.length : Int) == 0) = false := by rw [beq_eq_false_iff_ne]; omega
    have t0 : ((xs.length : Int) ≠ 0) := by omega
    have r1 : IntKind.i64.wrap ((n : Int).tmod (xs.length : Int)) = ((n % xs.length : Nat) : Int) := by
      rw [Int.tmod_eq_emod_of_nonneg (by omega), ← Int.natCast_emod]
      exact IntWalk.i64_in _ (by omega)
    rw [← e] at c1 bd
    have hmod : (n : Int) % (xs.length : Int) = ((n % xs.length : Nat) : Int) := (Int.natCast_emod _ _).symm
    have q0 : (0 : Int) ≤ ((n % xs.length : Nat) : Int) := by omega
    have q1 : ((n % xs.length : Nat) : Int) < (xs.length : Int) := by omega
    have wr : IntKind.i64.wrap (turnV xs n) = turnV xs n := IntWalk.i64_in _ (by omega)
    clear h hr hb hc e h0
    generalize turnV xs n = T at *
    generalize n % xs.length = K at *
    go_enter Tryz.func56, Tryz.ntmps56
    go_wp2_with fail

    go_ret
    exact ⟨rfl, rfl⟩

set_option maxHeartbeats 400000 in
theorem among_any (lo hi n : Int) (w : World) (h : 0 ≤ lo ∧ lo ≤ hi ∧ hi ≤ 2000) (hn : 0 ≤ n ∧ n ≤ 65535) :
    Calls Tryz.prog 55 #[.agg #[.int .i64 lo, .int .i64 hi], .int .i64 n] w fun e w' => e = .returned (.int .i64 (lo + n % (hi - lo + 1))) ∧ Below w.heap.size w w' := by
  obtain ⟨h1, h2, h3⟩ := h
  have e1 : IntKind.i64.wrap (hi - lo) = hi - lo := IntWalk.i64_in _ (by omega)
  have e2 : IntKind.i64.wrap (hi - lo + 1) = hi - lo + 1 := IntWalk.i64_in _ (by omega)
  have ep : 0 ≤ n % (hi - lo + 1) := Int.emod_nonneg _ (by omega)
  have eq : n % (hi - lo + 1) < hi - lo + 1 := Int.emod_lt_of_pos _ (by omega)
  have htm : n.tmod (hi - lo + 1) = n % (hi - lo + 1) := Int.tmod_eq_emod_of_nonneg hn.1
  have e6 : wrap64 (lo + n % (hi - lo + 1)) = lo + n % (hi - lo + 1) := by simp only [wrap64]; omega
  have e3 : IntKind.i64.wrap (n.tmod (hi - lo + 1)) = n % (hi - lo + 1) := by
    rw [Int.tmod_eq_emod_of_nonneg hn.1]
    exact IntWalk.i64_in _ (by omega)
  have e4 : IntKind.i64.wrap (lo + n % (hi - lo + 1)) = lo + n % (hi - lo + 1) := IntWalk.i64_in _ (by omega)
  have e0 : hi - lo + 1 ≠ 0 := by omega
  have e5 : (hi - lo + 1 == 0) = false := by rw [beq_eq_false_iff_ne]; omega
  clear hn ep eq
  generalize n % (hi - lo + 1) = R at *
  go_enter Tryz.func55, Tryz.ntmps55
  go_wp2_with fail
  go_quiet (fail)
  go_wp2_with fail

  go_ret
  exact ⟨rfl, by (repeat (first | assumption | exact Below.refl _ _ | refine Below.alloc ?_ (by (try simp) <;> omega) _ | refine below_drewN ?_ _ | refine Below.drew ?_ | refine Below.setCell ?_ (by (try simp) <;> omega) _ | refine Below.trans ?_ (Below.mono (by assumption) (by (try simp) <;> omega))))⟩

/-- A row of cells in a block, one cell written. -/
theorem row_setG {w : World} {B t : Nat} {l : List Value} (h : w.heap[B]? = some (.cells l.toArray t (0, 0))) (k : Nat) (v : Value) : (w.setCell ⟨B, k, none⟩ v).heap[B]? = some (.cells (l.set k v).toArray t (0, 0)) := heap_setCell_row h
theorem size34 (x0 x1 x2 x3 : Value) : (Tryz.prog.info? 34).map (·.size) = some (#[x0, x1, x2, x3] : Array Value).size := by
  show _ = some 4
  kernel_rfl
theorem size25 (m : Mo) : (Tryz.prog.info? 25).map (·.size) = some m.cells.size := by
  show _ = some 12
  kernel_rfl
theorem run_load34 {w : World} {B : Nat} {x0 x1 x2 x3 : Value} (h : w.heap[B]? = some (.cells #[x0, x1, x2, x3] 34 (0, 0))) : (loadVar 34 ⟨B, 0, none⟩).run Tryz.prog w = .ok (.agg #[x0, x1, x2, x3]) w :=
  run_loadVar_row w B 34 34 #[x0, x1, x2, x3] (0, 0) _ h Tryz.underlying34 rfl (size34 x0 x1 x2 x3)
theorem run_load25 {w : World} {B : Nat} {m : Mo} (h : w.heap[B]? = some (.cells m.cells 25 (0, 0))) : (loadVar 25 ⟨B, 0, none⟩).run Tryz.prog w = .ok (.agg m.cells) w :=
  run_loadVar_row w B 25 25 m.cells (0, 0) _ h Tryz.underlying25 rfl (size25 m)
theorem results_one34 {w : World} {B : Nat} {x0 x1 x2 x3 : Value} {fn : Func} {p : Tmp} (h : fn.results = #[.cell p 34]) (tmps : Array Value) (hp : tmps.getD p undef = .pointer (some ⟨B, 0, none⟩)) (hT : w.heap[B]? = some (.cells #[x0, x1, x2, x3] 34 (0, 0))) :
    (results fn tmps).run Tryz.prog w = .ok (.agg #[x0, x1, x2, x3]) w := by
  have h1 := run_load34 hT
  have hp2 : tmps[p]?.getD undef = .pointer (some ⟨B, 0, none⟩) := by simpa using hp
  simp only [results, h]
  simp [Sem.run_bind, Result.andThen, hp2, asAddr, h1]
theorem results_one25 {w : World} {B : Nat} {m : Mo} {fn : Func} {p : Tmp} (h : fn.results = #[.cell p 25]) (tmps : Array Value) (hp : tmps.getD p undef = .pointer (some ⟨B, 0, none⟩)) (hT : w.heap[B]? = some (.cells m.cells 25 (0, 0))) :
    (results fn tmps).run Tryz.prog w = .ok (.agg m.cells) w := by
  have h1 := run_load25 hT
  have hp2 : tmps[p]?.getD undef = .pointer (some ⟨B, 0, none⟩) := by simpa using hp
  simp only [results, h]
  simp [Sem.run_bind, Result.andThen, hp2, asAddr, h1]
theorem results_two34 {w : World} {B : Nat} {x0 x1 x2 x3 : Value} {fn : Func} {p q : Tmp} (h : fn.results = #[.cell p 34, .tmp q]) (tmps : Array Value) (v : Value) (hp : tmps.getD p undef = .pointer (some ⟨B, 0, none⟩)) (hq : tmps.getD q undef = v) (hT : w.heap[B]? = some (.cells #[x0, x1, x2, x3] 34 (0, 0))) :
    (results fn tmps).run Tryz.prog w = .ok (.tuple #[.agg #[x0, x1, x2, x3], v]) w := by
  have h1 := run_load34 hT
  have hp2 : tmps[p]?.getD undef = .pointer (some ⟨B, 0, none⟩) := by simpa using hp
  have hq2 : tmps[q]?.getD undef = v := by simpa using hq
  simp only [results, h]
  simp [Sem.run_bind, Result.andThen, hp2, hq2, asAddr, h1]
theorem row4 {w : World} {B t : Nat} {x0 x1 x2 x3 : Value} (h : w.heap[B]? = some (.cells #[x0, x1, x2, x3] t (0, 0))) (a b c d : Value) :
    ((((w.setCell ⟨B, 0, none⟩ a).setCell ⟨B, 1, none⟩ b).setCell ⟨B, 2, none⟩ c).setCell ⟨B, 3, none⟩ d).heap[B]? = some (.cells #[a, b, c, d] t (0, 0)) := by
  have h0 : w.heap[B]? = some (.cells [x0, x1, x2, x3].toArray t (0, 0)) := h
  exact row_setG (row_setG (row_setG (row_setG h0 0 a) 1 b) 2 c) 3 d
theorem below4 {W w : World} {n B : Nat} (h : Below n W w) (hB : n ≤ B) (a b c d : Value) : Below n W ((((w.setCell ⟨B, 0, none⟩ a).setCell ⟨B, 1, none⟩ b).setCell ⟨B, 2, none⟩ c).setCell ⟨B, 3, none⟩ d) :=
  (((h.setCell (p := ⟨B, 0, none⟩) hB a).setCell (p := ⟨B, 1, none⟩) hB b).setCell (p := ⟨B, 2, none⟩) hB c).setCell (p := ⟨B, 3, none⟩) hB d

theorem endL_any (a b c d : Int) (w : World) : Calls Tryz.prog 34 #[.int .i64 a, .int .i64 b, .int .i64 c, .int .i64 d] w fun e w' => e = .returned (.agg #[.int .i64 a, .int .i64 b, .int .i64 c, .int .i64 d]) ∧ Below w.heap.size w w' := by
  have HB := Lib.hid (below_alloc1 w (.cells #[.int .i64 0, .int .i64 0, .int .i64 0, .int .i64 0] 34))
  go_enter Tryz.func34, Tryz.ntmps34
  go_wp2_with (first | (go_at_call_of 33 (Value.int IntKind.i64 a); refine (span5_any a b _).mono ?_; rintro e w1 ⟨rfl, hb1⟩) | (go_at_call_of 33 (Value.int IntKind.i64 c); refine (span5_any c d _).mono ?_; rintro e w2 ⟨rfl, hb2⟩; have k := belT hb1 hb2; have c0 : w2.cell? ⟨w.heap.size, 0, none⟩ = some (.int .i64 0) := keep k (cell_new_lit w [_, _, _, _] 34 0); have c1 : w2.cell? ⟨w.heap.size, 1, none⟩ = some (.int .i64 0) := keep k (cell_new_lit w [_, _, _, _] 34 1); have c2 : w2.cell? ⟨w.heap.size, 2, none⟩ = some (.int .i64 0) := keep k (cell_new_lit w [_, _, _, _] 34 2); have c3 : w2.cell? ⟨w.heap.size, 3, none⟩ = some (.int .i64 0) := keep k (cell_new_lit w [_, _, _, _] 34 3); have HW := Lib.hid ((k.block w.heap.size (by simp)).trans (heap_alloc_new w _)); have fz : ∀ o, w2.frozen? ⟨w.heap.size, o, none⟩ = false := fun o => keepF k (by simp) (frozen_of_row (heap_alloc_new w _))))
  exact bodyPost_ret (results_one34 rfl _ rfl (row4 (HW.out) _ _ _ _)) rfl ⟨rfl, below4 (belT HB.out k) (Nat.le_refl _) _ _ _ _⟩

/-- The mould of the examples. -/
def moEx (deep : Int) : Mo := ⟨2, 500, 800, 800, 200, 300, 540, 100, 1, 250, 1, deep⟩
set_option maxHeartbeats 1000000 in
theorem mouldL_any (deep : Int) (w : World) : Calls Tryz.prog 25 #[.int .i64 deep] w fun e w' => e = .returned (.agg (moEx deep).cells) ∧ Below w.heap.size w w' := by
  have HB := Lib.hid (below_alloc1 w (.cells #[.int .i64 0, .int .i64 0, .int .i64 0, .int .i64 0, .int .i64 0, .int .i64 0, .int .i64 0, .int .i64 0, .int .i64 0, .int .i64 0, .int .i64 0, .int .i64 0] 25))
  go_enter Tryz.func25, Tryz.ntmps25
  go_wp2_with (first | (go_at_call_of 33 (Value.int IntKind.i64 800); refine (span5_any 800 800 _).mono ?_; rintro e w1 ⟨rfl, hb1⟩) | (go_at_call_of 33 (Value.int IntKind.i64 200); refine (span5_any 200 300 _).mono ?_; rintro e w2 ⟨rfl, hb2⟩; have k := belT hb1 hb2; have c0 : w2.cell? ⟨w.heap.size, 0, none⟩ = some (.int .i64 0) := keep k (cell_new_lit w [_, _, _, _, _, _, _, _, _, _, _, _] 25 0); have c1 : w2.cell? ⟨w.heap.size, 1, none⟩ = some (.int .i64 0) := keep k (cell_new_lit w [_, _, _, _, _, _, _, _, _, _, _, _] 25 1); have c2 : w2.cell? ⟨w.heap.size, 2, none⟩ = some (.int .i64 0) := keep k (cell_new_lit w [_, _, _, _, _, _, _, _, _, _, _, _] 25 2); have c3 : w2.cell? ⟨w.heap.size, 3, none⟩ = some (.int .i64 0) := keep k (cell_new_lit w [_, _, _, _, _, _, _, _, _, _, _, _] 25 3); have c4 : w2.cell? ⟨w.heap.size, 4, none⟩ = some (.int .i64 0) := keep k (cell_new_lit w [_, _, _, _, _, _, _, _, _, _, _, _] 25 4); have c5 : w2.cell? ⟨w.heap.size, 5, none⟩ = some (.int .i64 0) := keep k (cell_new_lit w [_, _, _, _, _, _, _, _, _, _, _, _] 25 5); have c6 : w2.cell? ⟨w.heap.size, 6, none⟩ = some (.int .i64 0) := keep k (cell_new_lit w [_, _, _, _, _, _, _, _, _, _, _, _] 25 6); have c7 : w2.cell? ⟨w.heap.size, 7, none⟩ = some (.int .i64 0) := keep k (cell_new_lit w [_, _, _, _, _, _, _, _, _, _, _, _] 25 7); have c8 : w2.cell? ⟨w.heap.size, 8, none⟩ = some (.int .i64 0) := keep k (cell_new_lit w [_, _, _, _, _, _, _, _, _, _, _, _] 25 8); have c9 : w2.cell? ⟨w.heap.size, 9, none⟩ = some (.int .i64 0) := keep k (cell_new_lit w [_, _, _, _, _, _, _, _, _, _, _, _] 25 9); have c10 : w2.cell? ⟨w.heap.size, 10, none⟩ = some (.int .i64 0) := keep k (cell_new_lit w [_, _, _, _, _, _, _, _, _, _, _, _] 25 10); have c11 : w2.cell? ⟨w.heap.size, 11, none⟩ = some (.int .i64 0) := keep k (cell_new_lit w [_, _, _, _, _, _, _, _, _, _, _, _] 25 11); have HW := Lib.hid ((k.block w.heap.size (by simp)).trans (heap_alloc_new w _)); have fz : ∀ o, w2.frozen? ⟨w.heap.size, o, none⟩ = false := fun o => keepF k (by simp) (frozen_of_row (heap_alloc_new w _))))
  have hr : w2.heap[w.heap.size]? = some (.cells [.int .i64 0, .int .i64 0, .int .i64 0, .int .i64 0, .int .i64 0, .int .i64 0, .int .i64 0, .int .i64 0, .int .i64 0, .int .i64 0, .int .i64 0, .int .i64 0].toArray 25 (0, 0)) := HW.out
  have h12 := row_setG (row_setG (row_setG (row_setG (row_setG (row_setG (row_setG (row_setG (row_setG (row_setG (row_setG (row_setG hr 0 (.int .i64 2)) 1 (.int .i64 500)) 2 (.int .i64 800)) 3 (.int .i64 800)) 4 (.int .i64 200)) 5 (.int .i64 300)) 6 (.int .i64 540)) 7 (.int .i64 100)) 8 (.int .i64 1)) 9 (.int .i64 250)) 10 (.int .i64 1)) 11 (.int .i64 deep)
  exact bodyPost_ret (results_one25 (m := moEx deep) rfl _ rfl h12) rfl ⟨rfl, ((((((((((((belT HB.out k).setCell (p := ⟨w.heap.size, 0, none⟩) (Nat.le_refl _) (.int .i64 2)).setCell (p := ⟨w.heap.size, 1, none⟩) (Nat.le_refl _) (.int .i64 500)).setCell (p := ⟨w.heap.size, 2, none⟩) (Nat.le_refl _) (.int .i64 800)).setCell (p := ⟨w.heap.size, 3, none⟩) (Nat.le_refl _) (.int .i64 800)).setCell (p := ⟨w.heap.size, 4, none⟩) (Nat.le_refl _) (.int .i64 200)).setCell (p := ⟨w.heap.size, 5, none⟩) (Nat.le_refl _) (.int .i64 300)).setCell (p := ⟨w.heap.size, 6, none⟩) (Nat.le_refl _) (.int .i64 540)).setCell (p := ⟨w.heap.size, 7, none⟩) (Nat.le_refl _) (.int .i64 100)).setCell (p := ⟨w.heap.size, 8, none⟩) (Nat.le_refl _) (.int .i64 1)).setCell (p := ⟨w.heap.size, 9, none⟩) (Nat.le_refl _) (.int .i64 250)).setCell (p := ⟨w.heap.size, 10, none⟩) (Nat.le_refl _) (.int .i64 1)).setCell (p := ⟨w.heap.size, 11, none⟩) (Nat.le_refl _) (.int .i64 deep)⟩

end Go.Proofs.YtcncmlpppabbcaaGreat
