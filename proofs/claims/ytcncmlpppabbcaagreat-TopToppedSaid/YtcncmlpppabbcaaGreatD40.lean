/- The walk of layer 5's laws' 'Awake'. -/
import Derived.Test.YtcncmlpppabbcaaGreatD35
import Derived.Test.YtcncmlpppabbcaaGreatD36
import Derived.Test.YtcncmlpppabbcaaGreatD38
import Derived.Test.YtcncmlpppabbcaaGreatD39
import Derived.Test.YtcncmlpppabbcaaGreatD26
import Derived.Test.YtcncmlpppabbcaaGreatW19
import Derived.Deep.RegionHeld3
namespace Go.Proofs.YtcncmlpppabbcaaGreat
set_option linter.unusedVariables false
set_option linter.unusedSimpArgs false
open Go.RowKit
attribute [local go_sem] Oper.semAt_some

theorem Rd.made2s (w : World) (H : Nat) (a b : Int × Int) (t : TypeId) (hH : w.heap.size = H) : Rd (w.alloc (.cells #[.int .i64 a.1, .int .i64 a.2, .int .i64 b.1, .int .i64 b.2] t)) 2 (.slice (some ⟨H, 0, none⟩) 2 2) (spanRows [a, b]) :=
  rd_new w w 0 H 2 (spanRows [a, b]) t hH (by simp [spanRows]) (by simp [spanRows]) (by simp [spanRows])
theorem Rd.made5 (w : World) (H : Nat) (x y z u v : Value) (t : TypeId) (hH : w.heap.size = H) : Rd (w.alloc (.cells #[x, y, z, u, v] t)) 1 (.slice (some ⟨H, 0, none⟩) 5 5) [[x], [y], [z], [u], [v]] := by subst hH; exact Rd.made w [x, y, z, u, v] t (by simp)
theorem spans5_same (v u : Value) (xs : List (Int × Int)) (w : World) (h : Rd w 2 v (spanRows xs)) (h' : Rd w 2 u (spanRows xs)) : Calls Tryz.prog 32 #[v, u] w fun e w' => e = .returned (.bool true) ∧ Below w.heap.size w w' :=
  (spans5_any v u xs xs w h h').mono fun _ _ h => ⟨h.1.trans (by simp), h.2⟩
theorem ints5_same (v u : Value) (xs : List Int) (w : World) (h : Rd w 1 v (ints xs)) (h' : Rd w 1 u (ints xs)) : Calls Tryz.prog 31 #[v, u] w fun e w' => e = .returned (.bool true) ∧ Below w.heap.size w w' :=
  (ints5_any v u xs xs w h h').mono fun _ _ h => ⟨h.1.trans (by simp), h.2⟩

/-- The examples' mould, written out. -/
def exV (d : Int) : Value := .agg #[.int .i64 2, .int .i64 500, .int .i64 800, .int .i64 800, .int .i64 200, .int .i64 300, .int .i64 540, .int .i64 100, .int .i64 1, .int .i64 250, .int .i64 1, .int .i64 d]

theorem ex_mould (d : Int) (w : World) : Calls Tryz.prog 25 #[.int .i64 d] w fun e w' => e = .returned (exV d) ∧ Below w.heap.size w w' := mouldL_any d w
theorem ex_coolC (pv wv : Value) (w : World) (hp : Rd w 1 pv (ints [800, 800])) (hw : Rd w 1 wv (ints [300, 300, 300, 300, 300])) :
    Calls Tryz.prog 24 #[exV 150, .agg #[pv, wv]] w fun e w' => ∃ v', e = .returned (.tuple #[v', .int .i64 0]) ∧ Rd w' 1 v' (ints [424, 502]) ∧ Below w.heap.size w w' := by
  refine (cool_any (moEx 150) ex_chk0 [800, 800] [300, 300, 300, 300, 300] rfl (by decide) (by decide +kernel) (by decide +kernel) pv wv w hp hw).mono ?_
  rintro e w' ⟨v', h1, h2, h3⟩
  refine ⟨v', h1, ?_, h3⟩
  rw [show ([800, 800] : List Int).length = 2 from rfl, show ([300, 300, 300, 300, 300] : List Int).length = 5 from rfl, ex_cool] at h2
  exact h2
theorem ex_warmC (w : World) : Calls Tryz.prog 26 #[exV 150, .int .i64 3] w fun e w' => ∃ v', e = .returned (.tuple #[v', .int .i64 0]) ∧ Rd w' 2 v' (spanRows [(425, 487), (575, 612)]) ∧ Below w.heap.size w w' := by
  refine (warm_ok (moEx 150) ex_chk0 3 (by decide) w).mono ?_
  rintro e w' ⟨v', h1, h2, h3⟩
  refine ⟨v', h1, ?_, h3⟩
  rw [show (moEx 150).rings.toNat = 2 from rfl, ex_warm] at h2
  exact h2
theorem ex_setsC (w : World) : Calls Tryz.prog 27 #[exV 150] w fun e w' => ∃ v', e = .returned (.tuple #[v', .int .i64 0]) ∧ Rd w' 2 v' (spanRows [(1, 3), (4, 5)]) ∧ Below w.heap.size w w' := by
  refine (sets_ok (moEx 150) ex_chk0 (by rw [ex_hot]; exact ex_max) w).mono ?_
  rintro e w' ⟨v', h1, h2, h3⟩
  refine ⟨v', h1, ?_, h3⟩
  rw [ex_cold, ex_hot] at h2
  exact h2
theorem ex_skinC (w : World) : Calls Tryz.prog 28 #[exV 150, .int .i64 4] w fun e w' => e = .returned (.tuple #[.agg #[.int .i64 1, .int .i64 2], .int .i64 0]) ∧ Below w.heap.size w w' := by
  refine (skin_ok (moEx 150) ex_chk0 4 (by decide) w).mono ?_
  rintro e w' ⟨h1, h2⟩
  refine ⟨h1.trans ?_, h2⟩
  rw [ex_cold, ex_hot, show (moEx 150).rings.toNat = 2 from rfl, ex_skin.1, ex_skin.2]
  rfl
theorem ex_hollowC (v : Value) (w : World) (hp : Rd w 1 v (ints [2, 3])) : Calls Tryz.prog 4 #[exV 150, v] w fun e w' => e = .returned (.tuple #[.agg #[.int .i64 100, .int .i64 150, .int .i64 250, .int .i64 300], .int .i64 0]) ∧ Below w.heap.size w w' := by
  refine (hollow_ok (moEx 150) ex_chk0 [2, 3] v w hp).mono ?_
  rintro e w' ⟨(⟨-, h1⟩ | ⟨h1, -⟩), h2⟩
  · rw [ex_hollowV] at h1
    exact ⟨h1, h2⟩
  · exact absurd ex_hollowP h1
theorem ex_few0C (w : World) : Calls Tryz.prog 29 #[exV 150] w fun e w' => ∃ v', e = .returned (.tuple #[v', .int .i64 0]) ∧ Rd w' 1 v' (ints [3]) ∧ Below w.heap.size w w' := by
  refine (fewest_ex 150 (by decide) w).mono ?_
  rintro e w' ⟨(⟨-, v', h1, h2⟩ | ⟨h1, -⟩), h3⟩
  · exact ⟨v', h1, h2, h3⟩
  · exact absurd rfl h1
theorem ex_few1C (w : World) : Calls Tryz.prog 29 #[exV 149] w fun e w' => e = .returned (.tuple #[.slice none 0 0, .int .i64 9]) ∧ Below w.heap.size w w' := by
  refine (fewest_ex 149 (by decide) w).mono ?_
  rintro e w' ⟨(⟨h1, -⟩ | ⟨-, h1⟩), h3⟩
  · exact absurd h1 (by decide)
  · exact ⟨h1, h3⟩
theorem ex_checkC (w : World) : Calls Tryz.prog 30 #[exV (-1)] w fun e w' => e = .returned (.int .i64 7) ∧ Below w.heap.size w w' := by
  refine (checkM_any (moEx (-1)) w).mono ?_
  rintro e w' ⟨h1, h2⟩
  rw [ex_chk2] at h1
  exact ⟨h1, h2⟩

set_option maxRecDepth 100000 in
set_option maxHeartbeats 4000000 in
theorem awake5_any (w : World) : Calls Tryz.prog 6 #[] w fun e w' => e = .returned (.bool true) ∧ Below w.heap.size w w' := by
  have hB := Below.refl w.heap.size w
  go_enter Tryz.func6, Tryz.ntmps6
  go_wp2_with fail
  refine (ex_mould 150 _).mono ?_
  rintro e w1 ⟨rfl, hb⟩
  have hk : Below w.heap.size w w1 := by (repeat (first | assumption | exact Below.refl _ _ | refine Below.alloc ?_ (by (try simp) <;> omega) _ | refine below_drewN ?_ _ | refine Below.drew ?_ | refine Below.setCell ?_ (by (try simp) <;> omega) _ | refine Below.trans ?_ (Below.mono (by assumption) (by (try simp) <;> omega))))
  replace hB := hB.trans (hk.mono hB.size)
  have hzw1 := hB.size
  clear hk hb
  go_wp2_with fail
  refine (ex_coolC _ _ _ ((Rd.made2 w1 _ (.int .i64 800) (.int .i64 800) 3 rfl).below (below_alloc1 _ _)) (Rd.made5 _ (w1.heap.size + 1) (.int .i64 300) (.int .i64 300) (.int .i64 300) (.int .i64 300) (.int .i64 300) 3 (by simp))).mono ?_
  rintro e w2 ⟨v1, rfl, hr1, hb⟩
  have HV1 := Lib.hid hr1
  clear hr1
  have hk : Below w1.heap.size w1 w2 := by (repeat (first | assumption | exact Below.refl _ _ | refine Below.alloc ?_ (by (try simp) <;> omega) _ | refine below_drewN ?_ _ | refine Below.drew ?_ | refine Below.setCell ?_ (by (try simp) <;> omega) _ | refine Below.trans ?_ (Below.mono (by assumption) (by (try simp) <;> omega))))
  replace hB := hB.trans (hk.mono hB.size)
  have hzw2 := hB.size
  clear hk hb
  go_wp2_with fail
  refine (ex_mould 150 _).mono ?_
  rintro e w3 ⟨rfl, hb⟩
  replace HV1 := Lib.hid (HV1.out.below hb)
  have hk : Below w2.heap.size w2 w3 := by (repeat (first | assumption | exact Below.refl _ _ | refine Below.alloc ?_ (by (try simp) <;> omega) _ | refine below_drewN ?_ _ | refine Below.drew ?_ | refine Below.setCell ?_ (by (try simp) <;> omega) _ | refine Below.trans ?_ (Below.mono (by assumption) (by (try simp) <;> omega))))
  replace hB := hB.trans (hk.mono hB.size)
  have hzw3 := hB.size
  clear hk hb
  go_wp2_with fail
  refine (ex_warmC _).mono ?_
  rintro e w4 ⟨v2, rfl, hr2, hb⟩
  have HV2 := Lib.hid hr2
  replace HV1 := Lib.hid (HV1.out.below hb)
  clear hr2
  have hk : Below w3.heap.size w3 w4 := by (repeat (first | assumption | exact Below.refl _ _ | refine Below.alloc ?_ (by (try simp) <;> omega) _ | refine below_drewN ?_ _ | refine Below.drew ?_ | refine Below.setCell ?_ (by (try simp) <;> omega) _ | refine Below.trans ?_ (Below.mono (by assumption) (by (try simp) <;> omega))))
  replace hB := hB.trans (hk.mono hB.size)
  have hzw4 := hB.size
  clear hk hb
  go_wp2_with fail
  refine (ex_mould 150 _).mono ?_
  rintro e w5 ⟨rfl, hb⟩
  replace HV1 := Lib.hid (HV1.out.below hb)
  replace HV2 := Lib.hid (HV2.out.below hb)
  have hk : Below w4.heap.size w4 w5 := by (repeat (first | assumption | exact Below.refl _ _ | refine Below.alloc ?_ (by (try simp) <;> omega) _ | refine below_drewN ?_ _ | refine Below.drew ?_ | refine Below.setCell ?_ (by (try simp) <;> omega) _ | refine Below.trans ?_ (Below.mono (by assumption) (by (try simp) <;> omega))))
  replace hB := hB.trans (hk.mono hB.size)
  have hzw5 := hB.size
  clear hk hb
  go_wp2_with fail
  refine (ex_setsC _).mono ?_
  rintro e w6 ⟨v3, rfl, hr3, hb⟩
  have HV3 := Lib.hid hr3
  replace HV1 := Lib.hid (HV1.out.below hb)
  replace HV2 := Lib.hid (HV2.out.below hb)
  clear hr3
  have hk : Below w5.heap.size w5 w6 := by (repeat (first | assumption | exact Below.refl _ _ | refine Below.alloc ?_ (by (try simp) <;> omega) _ | refine below_drewN ?_ _ | refine Below.drew ?_ | refine Below.setCell ?_ (by (try simp) <;> omega) _ | refine Below.trans ?_ (Below.mono (by assumption) (by (try simp) <;> omega))))
  replace hB := hB.trans (hk.mono hB.size)
  have hzw6 := hB.size
  clear hk hb
  go_wp2_with fail
  refine (ex_mould 150 _).mono ?_
  rintro e w7 ⟨rfl, hb⟩
  replace HV1 := Lib.hid (HV1.out.below hb)
  replace HV2 := Lib.hid (HV2.out.below hb)
  replace HV3 := Lib.hid (HV3.out.below hb)
  have hk : Below w6.heap.size w6 w7 := by (repeat (first | assumption | exact Below.refl _ _ | refine Below.alloc ?_ (by (try simp) <;> omega) _ | refine below_drewN ?_ _ | refine Below.drew ?_ | refine Below.setCell ?_ (by (try simp) <;> omega) _ | refine Below.trans ?_ (Below.mono (by assumption) (by (try simp) <;> omega))))
  replace hB := hB.trans (hk.mono hB.size)
  have hzw7 := hB.size
  clear hk hb
  go_wp2_with fail
  refine (ex_skinC _).mono ?_
  rintro e w8 ⟨rfl, hb⟩
  replace HV1 := Lib.hid (HV1.out.below hb)
  replace HV2 := Lib.hid (HV2.out.below hb)
  replace HV3 := Lib.hid (HV3.out.below hb)
  have hk : Below w7.heap.size w7 w8 := by (repeat (first | assumption | exact Below.refl _ _ | refine Below.alloc ?_ (by (try simp) <;> omega) _ | refine below_drewN ?_ _ | refine Below.drew ?_ | refine Below.setCell ?_ (by (try simp) <;> omega) _ | refine Below.trans ?_ (Below.mono (by assumption) (by (try simp) <;> omega))))
  replace hB := hB.trans (hk.mono hB.size)
  have hzw8 := hB.size
  clear hk hb
  go_wp2_with fail
  refine (ex_mould 150 _).mono ?_
  rintro e w9 ⟨rfl, hb⟩
  have d0 : w9.cell? ⟨w8.heap.size, 0, none⟩ = some (.int .i64 1) := keep hb (by simp [go_sem])
  have d1 : w9.cell? ⟨w8.heap.size, 1, none⟩ = some (.int .i64 2) := keep hb (by simp [go_sem])
  replace HV1 := Lib.hid ((HV1.out.below (below_alloc1 _ _)).below hb)
  replace HV2 := Lib.hid ((HV2.out.below (below_alloc1 _ _)).below hb)
  replace HV3 := Lib.hid ((HV3.out.below (below_alloc1 _ _)).below hb)
  have hk : Below w8.heap.size w8 w9 := by (repeat (first | assumption | exact Below.refl _ _ | refine Below.alloc ?_ (by (try simp) <;> omega) _ | refine below_drewN ?_ _ | refine Below.drew ?_ | refine Below.setCell ?_ (by (try simp) <;> omega) _ | refine Below.trans ?_ (Below.mono (by assumption) (by (try simp) <;> omega))))
  replace hB := hB.trans (hk.mono hB.size)
  have hzw9 := hB.size
  clear hk hb
  go_wp2_with fail
  refine (ex_hollowC _ _ (Rd.made2 w9 _ (.int .i64 2) (.int .i64 3) 3 rfl)).mono ?_
  rintro e w10 ⟨rfl, hb⟩
  replace HV1 := Lib.hid ((HV1.out.below (below_alloc1 _ _)).below hb)
  replace HV2 := Lib.hid ((HV2.out.below (below_alloc1 _ _)).below hb)
  replace HV3 := Lib.hid ((HV3.out.below (below_alloc1 _ _)).below hb)
  have hk : Below w9.heap.size w9 w10 := by (repeat (first | assumption | exact Below.refl _ _ | refine Below.alloc ?_ (by (try simp) <;> omega) _ | refine below_drewN ?_ _ | refine Below.drew ?_ | refine Below.setCell ?_ (by (try simp) <;> omega) _ | refine Below.trans ?_ (Below.mono (by assumption) (by (try simp) <;> omega))))
  replace hB := hB.trans (hk.mono hB.size)
  have hzw10 := hB.size
  replace d0 := keep hk d0
  replace d1 := keep hk d1
  have ld0 := lt_of_cell d0
  clear hk hb
  go_wp2_with fail
  refine (ex_mould 150 _).mono ?_
  rintro e w11 ⟨rfl, hb⟩
  have f0 : w11.cell? ⟨w10.heap.size, 0, none⟩ = some (.int .i64 100) := keep hb (by simp [go_sem])
  have f1 : w11.cell? ⟨w10.heap.size, 1, none⟩ = some (.int .i64 150) := keep hb (by simp [go_sem])
  have f2 : w11.cell? ⟨w10.heap.size, 2, none⟩ = some (.int .i64 250) := keep hb (by simp [go_sem])
  have f3 : w11.cell? ⟨w10.heap.size, 3, none⟩ = some (.int .i64 300) := keep hb (by simp [go_sem])
  replace HV1 := Lib.hid ((HV1.out.below (below_alloc1 _ _)).below hb)
  replace HV2 := Lib.hid ((HV2.out.below (below_alloc1 _ _)).below hb)
  replace HV3 := Lib.hid ((HV3.out.below (below_alloc1 _ _)).below hb)
  have hk : Below w10.heap.size w10 w11 := by (repeat (first | assumption | exact Below.refl _ _ | refine Below.alloc ?_ (by (try simp) <;> omega) _ | refine below_drewN ?_ _ | refine Below.drew ?_ | refine Below.setCell ?_ (by (try simp) <;> omega) _ | refine Below.trans ?_ (Below.mono (by assumption) (by (try simp) <;> omega))))
  replace hB := hB.trans (hk.mono hB.size)
  have hzw11 := hB.size
  replace d0 := keep hk d0
  replace d1 := keep hk d1
  have ld0 := lt_of_cell d0
  clear hk hb
  go_wp2_with fail
  refine (ex_few0C _).mono ?_
  rintro e w12 ⟨v6, rfl, hr6, hb⟩
  have HV6 := Lib.hid hr6
  replace HV1 := Lib.hid (HV1.out.below hb)
  replace HV2 := Lib.hid (HV2.out.below hb)
  replace HV3 := Lib.hid (HV3.out.below hb)
  clear hr6
  have hk : Below w11.heap.size w11 w12 := by (repeat (first | assumption | exact Below.refl _ _ | refine Below.alloc ?_ (by (try simp) <;> omega) _ | refine below_drewN ?_ _ | refine Below.drew ?_ | refine Below.setCell ?_ (by (try simp) <;> omega) _ | refine Below.trans ?_ (Below.mono (by assumption) (by (try simp) <;> omega))))
  replace hB := hB.trans (hk.mono hB.size)
  have hzw12 := hB.size
  replace d0 := keep hk d0
  replace d1 := keep hk d1
  replace f0 := keep hk f0
  replace f1 := keep hk f1
  replace f2 := keep hk f2
  replace f3 := keep hk f3
  have ld0 := lt_of_cell d0
  have lf0 := lt_of_cell f0
  clear hk hb
  go_wp2_with fail
  refine (ex_mould 149 _).mono ?_
  rintro e w13 ⟨rfl, hb⟩
  replace HV1 := Lib.hid (HV1.out.below hb)
  replace HV2 := Lib.hid (HV2.out.below hb)
  replace HV3 := Lib.hid (HV3.out.below hb)
  replace HV6 := Lib.hid (HV6.out.below hb)
  have hk : Below w12.heap.size w12 w13 := by (repeat (first | assumption | exact Below.refl _ _ | refine Below.alloc ?_ (by (try simp) <;> omega) _ | refine below_drewN ?_ _ | refine Below.drew ?_ | refine Below.setCell ?_ (by (try simp) <;> omega) _ | refine Below.trans ?_ (Below.mono (by assumption) (by (try simp) <;> omega))))
  replace hB := hB.trans (hk.mono hB.size)
  have hzw13 := hB.size
  replace d0 := keep hk d0
  replace d1 := keep hk d1
  replace f0 := keep hk f0
  replace f1 := keep hk f1
  replace f2 := keep hk f2
  replace f3 := keep hk f3
  have ld0 := lt_of_cell d0
  have lf0 := lt_of_cell f0
  clear hk hb
  go_wp2_with fail
  refine (ex_few1C _).mono ?_
  rintro e w14 ⟨rfl, hb⟩
  replace HV1 := Lib.hid (HV1.out.below hb)
  replace HV2 := Lib.hid (HV2.out.below hb)
  replace HV3 := Lib.hid (HV3.out.below hb)
  replace HV6 := Lib.hid (HV6.out.below hb)
  have hk : Below w13.heap.size w13 w14 := by (repeat (first | assumption | exact Below.refl _ _ | refine Below.alloc ?_ (by (try simp) <;> omega) _ | refine below_drewN ?_ _ | refine Below.drew ?_ | refine Below.setCell ?_ (by (try simp) <;> omega) _ | refine Below.trans ?_ (Below.mono (by assumption) (by (try simp) <;> omega))))
  replace hB := hB.trans (hk.mono hB.size)
  have hzw14 := hB.size
  replace d0 := keep hk d0
  replace d1 := keep hk d1
  replace f0 := keep hk f0
  replace f1 := keep hk f1
  replace f2 := keep hk f2
  replace f3 := keep hk f3
  have ld0 := lt_of_cell d0
  have lf0 := lt_of_cell f0
  clear hk hb
  obtain ⟨D, hD⟩ : ∃ D, w8.heap.size = D := ⟨_, rfl⟩
  obtain ⟨F, hF⟩ : ∃ F, w10.heap.size = F := ⟨_, rfl⟩
  rw [hD] at d0 d1 ⊢
  rw [hF] at f0 f1 f2 f3 ⊢
  go_wp2_with fail
  have HW14 := Lib.hid hB
  clear hB
  have z1 : D < w14.heap.size := by omega
  have z2 : F < w14.heap.size := by omega
  clear hD hF hzw1 hzw2 hzw3 hzw4 hzw5 hzw6 hzw7 hzw8 hzw9 hzw10 hzw11 hzw12 hzw13
  simp only [List.append_eq, List.cons_append, List.nil_append]
  go_region_held3 (fun w' => w'.cell? ⟨D, 0, none⟩ = some (.int .i64 1) ∧ w'.cell? ⟨D, 1, none⟩ = some (.int .i64 2) ∧ w'.cell? ⟨F, 0, none⟩ = some (.int .i64 100) ∧ w'.cell? ⟨F, 1, none⟩ = some (.int .i64 150) ∧ w'.cell? ⟨F, 2, none⟩ = some (.int .i64 250) ∧ w'.cell? ⟨F, 3, none⟩ = some (.int .i64 300) ∧ Below w14.heap.size w14 w')
    (first | (go_split_ands; refine ⟨?_, ?_, ?_, ?_, ?_, ?_, ?_⟩ <;> with_reducible first | (refine keep hb ?_; assumption) | exact belTrans (by assumption) hb) | (go_split_ands; refine ⟨?_, ?_, ?_, ?_, ?_, ?_, ?_⟩ <;> with_reducible first | assumption | exact belAlloc (by assumption) _ | exact Below.drew (by assumption) | exact Below.drew (Below.refl _ _) | (refine keep (below_alloc1 _ _) ?_; assumption) | go_keep))
    (first
      | (go_at_call 25; refine (ex_mould (-1) _).mono ?_; rintro e w3 ⟨rfl, hb⟩)
      | (go_at_call 30; refine (ex_checkC _).mono ?_; rintro e w3 ⟨rfl, hb⟩)
      | (go_at_call 33; refine (span5_any _ _ _).mono ?_; rintro e w3 ⟨rfl, hb⟩)
      | (go_at_call 34; refine (endL_any _ _ _ _ _).mono ?_; rintro e w3 ⟨rfl, hb⟩)
      | (go_at_call 32; rename_i hHH _ _; have hR2 := Rd.made2s w3 _ (425, 487) (575, 612) 23 rfl; obtain ⟨wX, hX⟩ : ∃ wX, w3.alloc (.cells #[.int .i64 425, .int .i64 487, .int .i64 575, .int .i64 612] 23) = wX := ⟨_, rfl⟩; rw [hX] at hHH hR2 ⊢; refine (spans5_same _ _ [(425, 487), (575, 612)] _ (HV2.out.below hHH.2.2.2.2.2.2) hR2).mono ?_; clear hX hR2 hb; rintro e w3 ⟨rfl, hb⟩)
      | (go_at_call 32; rename_i hHH _ _; have hR2 := Rd.made2s w3 _ (1, 3) (4, 5) 23 rfl; obtain ⟨wX, hX⟩ : ∃ wX, w3.alloc (.cells #[.int .i64 1, .int .i64 3, .int .i64 4, .int .i64 5] 23) = wX := ⟨_, rfl⟩; rw [hX] at hHH hR2 ⊢; refine (spans5_same _ _ [(1, 3), (4, 5)] _ (HV3.out.below hHH.2.2.2.2.2.2) hR2).mono ?_; clear hX hR2 hb; rintro e w3 ⟨rfl, hb⟩)
      | (go_at_call 31; rename_i hHH _ _; have hR2 := Rd.made2 w3 _ (.int .i64 424) (.int .i64 502) 3 rfl; obtain ⟨wX, hX⟩ : ∃ wX, w3.alloc (.cells #[.int .i64 424, .int .i64 502] 3) = wX := ⟨_, rfl⟩; rw [hX] at hHH hR2 ⊢; refine (ints5_same _ _ [424, 502] _ (HV1.out.below hHH.2.2.2.2.2.2) hR2).mono ?_; clear hX hR2 hb; rintro e w3 ⟨rfl, hb⟩)
      | (go_at_call 31; rename_i hHH _ _; have hR2 := Rd.made1 w3 _ (.int .i64 3) 3 rfl; obtain ⟨wX, hX⟩ : ∃ wX, w3.alloc (.cells #[.int .i64 3] 3) = wX := ⟨_, rfl⟩; rw [hX] at hHH hR2 ⊢; refine (ints5_same _ _ [3] _ (HV6.out.below hHH.2.2.2.2.2.2) hR2).mono ?_; clear hX hR2 hb; rintro e w3 ⟨rfl, hb⟩))
  rename_i hH2
  have hfin := belTrans HW14.out hH2.2.2.2.2.2.2
  clear hH2
  go_wp2_with fail
  go_ret
  exact ⟨rfl, hfin⟩

end Go.Proofs.YtcncmlpppabbcaaGreat
