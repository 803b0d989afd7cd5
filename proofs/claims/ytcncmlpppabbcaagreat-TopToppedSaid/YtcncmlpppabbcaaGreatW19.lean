/- The walk of the laws' 'Awake'. -/
import Derived.Test.YtcncmlpppabbcaaGreatM18
import Derived.Test.YtcncmlpppabbcaaGreatW16
import Derived.Test.YtcncmlpppabbcaaGreatR8
import Derived.Deep.RegionHeld3
namespace Go.Proofs.YtcncmlpppabbcaaGreat
set_option linter.unusedVariables false
set_option linter.unusedSimpArgs false
open Go.RowKit

theorem Rd.made4s (w : World) (H : Nat) (a b c d : Int × Int) (t : TypeId) (hH : w.heap.size = H) : Rd (w.alloc (.cells #[.int .i64 a.1, .int .i64 a.2, .int .i64 b.1, .int .i64 b.2, .int .i64 c.1, .int .i64 c.2, .int .i64 d.1, .int .i64 d.2] t)) 2 (.slice (some ⟨H, 0, none⟩) 4 4) (spanRows [a, b, c, d]) :=
  rd_new w w 0 H 2 (spanRows [a, b, c, d]) t hH (by simp [spanRows]) (by simp [spanRows]) (by simp [spanRows])

theorem rd_two {w : World} {v : Value} (h : Rd w 3 v (bagRows exBags)) : ∃ a c, v = .slice a 3 c ∧ 3 ≤ c ∧ Rd w 3 (.slice a 2 c) (bagRows (exBags.take 2)) := by
  obtain ⟨a, c, rfl, hc, hm, hl, hr⟩ := id h
  exact ⟨a, c, rfl, hc, Rd.take h 2 (by decide)⟩

theorem belTrans {W w1 w2 : World} {n : Nat} (h1 : Below n W w1) (h2 : Below w1.heap.size w1 w2) (hn : n ≤ W.heap.size := by exact Nat.le_refl _) : Below n W w2 := h1.trans (h2.mono (Nat.le_trans hn h1.size))
theorem belAlloc {W w1 : World} (h1 : Below W.heap.size W w1) (o : Obj) : Below W.heap.size W (w1.alloc o) := belTrans h1 (below_alloc1 _ _)

theorem refSpans_same (v u : Value) (xs : List (Int × Int)) (w : World) (h : Rd w 2 v (spanRows xs)) (h' : Rd w 2 u (spanRows xs)) : Calls Tryz.prog 43 #[v, u] w fun e w' => e = .returned (.bool true) ∧ Below w.heap.size w w' :=
  (refSpans_any v u xs xs w h h').mono fun _ _ h => ⟨h.1.trans (by simp), h.2⟩
theorem refInts_same (v u : Value) (xs : List Int) (w : World) (h : Rd w 1 v (ints xs)) (h' : Rd w 1 u (ints xs)) : Calls Tryz.prog 45 #[v, u] w fun e w' => e = .returned (.bool true) ∧ Below w.heap.size w w' :=
  (refInts_any v u xs xs w h h').mono fun _ _ h => ⟨h.1.trans (by simp), h.2⟩

set_option maxRecDepth 100000 in
set_option maxHeartbeats 4000000 in
theorem awake_any (w : World) : Calls Tryz.prog 7 #[] w fun e w' => e = .returned (.bool true) ∧ Below w.heap.size w w' := by
  have hB := Below.refl w.heap.size w
  go_enter Tryz.func7, Tryz.ntmps7
  go_wp2_with fail
  refine (line_any _).mono ?_
  rintro e w1 ⟨v, rfl, hl, hb⟩
  have HL := Lib.hid hl
  clear hl
  have hk : Below w.heap.size w w1 := by (repeat (first | assumption | exact Below.refl _ _ | refine Below.alloc ?_ (by (try simp) <;> omega) _ | refine below_drewN ?_ _ | refine Below.drew ?_ | refine Below.setCell ?_ (by (try simp) <;> omega) _ | refine Below.trans ?_ (Below.mono (by assumption) (by (try simp) <;> omega))))
  replace hB := hB.trans (hk.mono hB.size)
  have hzw1 := hB.size
  clear hk hb
  go_wp2_with fail
  refine (readings_any _ _ _).mono ?_
  rintro e w2 ⟨rv, rfl, hr, hb⟩
  have HL2 := Lib.hid (HL.out.below hb)
  have HR := Lib.hid hr
  clear HL hr
  have hk : Below w1.heap.size w1 w2 := by (repeat (first | assumption | exact Below.refl _ _ | refine Below.alloc ?_ (by (try simp) <;> omega) _ | refine below_drewN ?_ _ | refine Below.drew ?_ | refine Below.setCell ?_ (by (try simp) <;> omega) _ | refine Below.trans ?_ (Below.mono (by assumption) (by (try simp) <;> omega))))
  replace hB := hB.trans (hk.mono hB.size)
  have hzw2 := hB.size
  clear hk hb
  go_wp2_with fail
  refine (weights_any 50 exLine [1000, -1, 820, 805] _ _ _ HL2.out HR.out names_ex).mono ?_
  rw [wErr1, wAt1]
  rintro e w3 ⟨sv, rfl, hs, hb⟩
  have HW := Lib.hid hs
  clear hs HL2 HR
  have hk : Below w2.heap.size w2 w3 := by (repeat (first | assumption | exact Below.refl _ _ | refine Below.alloc ?_ (by (try simp) <;> omega) _ | refine below_drewN ?_ _ | refine Below.drew ?_ | refine Below.setCell ?_ (by (try simp) <;> omega) _ | refine Below.trans ?_ (Below.mono (by assumption) (by (try simp) <;> omega))))
  replace hB := hB.trans (hk.mono hB.size)
  have hzw3 := hB.size
  clear hk hb
  go_wp2_with fail
  refine (line_any _).mono ?_
  rintro e w4 ⟨v, rfl, hl, hb⟩
  have HL := Lib.hid hl
  replace HW := Lib.hid (HW.out.below hb)
  clear hl
  have hk : Below w3.heap.size w3 w4 := by (repeat (first | assumption | exact Below.refl _ _ | refine Below.alloc ?_ (by (try simp) <;> omega) _ | refine below_drewN ?_ _ | refine Below.drew ?_ | refine Below.setCell ?_ (by (try simp) <;> omega) _ | refine Below.trans ?_ (Below.mono (by assumption) (by (try simp) <;> omega))))
  replace hB := hB.trans (hk.mono hB.size)
  have hzw4 := hB.size
  clear hk hb
  go_wp2_with fail
  refine (readings_any _ _ _).mono ?_
  rintro e w5 ⟨rv, rfl, hr, hb⟩
  replace HL := Lib.hid (HL.out.below hb)
  replace HW := Lib.hid (HW.out.below hb)
  have HR := Lib.hid hr
  clear hr
  have hk : Below w4.heap.size w4 w5 := by (repeat (first | assumption | exact Below.refl _ _ | refine Below.alloc ?_ (by (try simp) <;> omega) _ | refine below_drewN ?_ _ | refine Below.drew ?_ | refine Below.setCell ?_ (by (try simp) <;> omega) _ | refine Below.trans ?_ (Below.mono (by assumption) (by (try simp) <;> omega))))
  replace hB := hB.trans (hk.mono hB.size)
  have hzw5 := hB.size
  clear hk hb
  go_wp2_with fail
  refine (lost_any 50 exLine [1000, -1, 820, 805] _ _ 0 3 _ HL.out HR.out names_ex).mono ?_
  rw [lost1.1, lost1.2]
  rintro e w6 ⟨rfl, hb⟩
  replace HW := Lib.hid (HW.out.below hb)
  clear HL HR
  have hk : Below w5.heap.size w5 w6 := by (repeat (first | assumption | exact Below.refl _ _ | refine Below.alloc ?_ (by (try simp) <;> omega) _ | refine below_drewN ?_ _ | refine Below.drew ?_ | refine Below.setCell ?_ (by (try simp) <;> omega) _ | refine Below.trans ?_ (Below.mono (by assumption) (by (try simp) <;> omega))))
  replace hB := hB.trans (hk.mono hB.size)
  have hzw6 := hB.size
  clear hk hb
  go_wp2_with fail
  refine (line_any _).mono ?_
  rintro e w7 ⟨v, rfl, hl, hb⟩
  have d0 : w7.cell? ⟨w6.heap.size, 0, none⟩ = some (.int .i64 135) := keep hb (by simp [go_sem])
  have d1 : w7.cell? ⟨w6.heap.size, 1, none⟩ = some (.int .i64 255) := keep hb (by simp [go_sem])
  have HL := Lib.hid hl
  replace HW := Lib.hid ((HW.out.below (below_alloc1 _ _)).below hb)
  clear hl
  have hk : Below w6.heap.size w6 w7 := by (repeat (first | assumption | exact Below.refl _ _ | refine Below.alloc ?_ (by (try simp) <;> omega) _ | refine below_drewN ?_ _ | refine Below.drew ?_ | refine Below.setCell ?_ (by (try simp) <;> omega) _ | refine Below.trans ?_ (Below.mono (by assumption) (by (try simp) <;> omega))))
  replace hB := hB.trans (hk.mono hB.size)
  have hzw7 := hB.size
  clear hk hb
  go_wp2_with fail
  refine (readings_any _ _ _).mono ?_
  rintro e w8 ⟨rv, rfl, hr, hb⟩
  replace HL := Lib.hid (HL.out.below hb)
  replace HW := Lib.hid (HW.out.below hb)
  have HR := Lib.hid hr
  clear hr
  have hk : Below w7.heap.size w7 w8 := by (repeat (first | assumption | exact Below.refl _ _ | refine Below.alloc ?_ (by (try simp) <;> omega) _ | refine below_drewN ?_ _ | refine Below.drew ?_ | refine Below.setCell ?_ (by (try simp) <;> omega) _ | refine Below.trans ?_ (Below.mono (by assumption) (by (try simp) <;> omega))))
  replace hB := hB.trans (hk.mono hB.size)
  have hzw8 := hB.size
  replace d0 := keep hk d0
  replace d1 := keep hk d1
  have ld0 := lt_of_cell d0
  clear hk hb
  go_wp2_with fail
  refine (cheats_any 50 exLine [1000, -1, 820, 900] _ _ _ HL.out HR.out names_ex).mono ?_
  rw [cheat2.1, cheat2.2]
  rintro e w9 ⟨cv, rfl, hc, hb⟩
  replace HW := Lib.hid (HW.out.below hb)
  have HC := Lib.hid hc
  clear hc HL HR
  have hk : Below w8.heap.size w8 w9 := by (repeat (first | assumption | exact Below.refl _ _ | refine Below.alloc ?_ (by (try simp) <;> omega) _ | refine below_drewN ?_ _ | refine Below.drew ?_ | refine Below.setCell ?_ (by (try simp) <;> omega) _ | refine Below.trans ?_ (Below.mono (by assumption) (by (try simp) <;> omega))))
  replace hB := hB.trans (hk.mono hB.size)
  have hzw9 := hB.size
  replace d0 := keep hk d0
  replace d1 := keep hk d1
  have ld0 := lt_of_cell d0
  clear hk hb
  go_wp2_with fail
  refine (line_any _).mono ?_
  rintro e w10 ⟨v, rfl, hl, hb⟩
  have HL := Lib.hid hl
  replace HW := Lib.hid (HW.out.below hb)
  replace HC := Lib.hid (HC.out.below hb)
  clear hl
  have hk : Below w9.heap.size w9 w10 := by (repeat (first | assumption | exact Below.refl _ _ | refine Below.alloc ?_ (by (try simp) <;> omega) _ | refine below_drewN ?_ _ | refine Below.drew ?_ | refine Below.setCell ?_ (by (try simp) <;> omega) _ | refine Below.trans ?_ (Below.mono (by assumption) (by (try simp) <;> omega))))
  replace hB := hB.trans (hk.mono hB.size)
  have hzw10 := hB.size
  replace d0 := keep hk d0
  replace d1 := keep hk d1
  have ld0 := lt_of_cell d0
  clear hk hb
  go_wp2_with fail
  refine (readings_any _ _ _).mono ?_
  rintro e w11 ⟨rv, rfl, hr, hb⟩
  replace HL := Lib.hid (HL.out.below hb)
  replace HW := Lib.hid (HW.out.below hb)
  replace HC := Lib.hid (HC.out.below hb)
  have HR := Lib.hid hr
  clear hr
  have hk : Below w10.heap.size w10 w11 := by (repeat (first | assumption | exact Below.refl _ _ | refine Below.alloc ?_ (by (try simp) <;> omega) _ | refine below_drewN ?_ _ | refine Below.drew ?_ | refine Below.setCell ?_ (by (try simp) <;> omega) _ | refine Below.trans ?_ (Below.mono (by assumption) (by (try simp) <;> omega))))
  replace hB := hB.trans (hk.mono hB.size)
  have hzw11 := hB.size
  replace d0 := keep hk d0
  replace d1 := keep hk d1
  have ld0 := lt_of_cell d0
  clear hk hb
  go_wp2_with fail
  refine (off_any 50 exLine [1300, -1, 820, 805] _ _ 0 _ HL.out HR.out names_ex).mono ?_
  rw [off3.1, off3.2]
  rintro e w12 ⟨rfl, hb⟩
  replace HW := Lib.hid (HW.out.below hb)
  replace HC := Lib.hid (HC.out.below hb)
  clear HL HR
  have hk : Below w11.heap.size w11 w12 := by (repeat (first | assumption | exact Below.refl _ _ | refine Below.alloc ?_ (by (try simp) <;> omega) _ | refine below_drewN ?_ _ | refine Below.drew ?_ | refine Below.setCell ?_ (by (try simp) <;> omega) _ | refine Below.trans ?_ (Below.mono (by assumption) (by (try simp) <;> omega))))
  replace hB := hB.trans (hk.mono hB.size)
  have hzw12 := hB.size
  replace d0 := keep hk d0
  replace d1 := keep hk d1
  have ld0 := lt_of_cell d0
  clear hk hb
  go_wp2_with fail
  refine (sort_any _ _).mono ?_
  rintro e w13 ⟨rfl, hb⟩
  have f0 : w13.cell? ⟨w12.heap.size, 0, none⟩ = some (.int .i64 210) := keep hb (by simp [go_sem])
  have f1 : w13.cell? ⟨w12.heap.size, 1, none⟩ = some (.int .i64 450) := keep hb (by simp [go_sem])
  replace HW := Lib.hid ((HW.out.below (below_alloc1 _ _)).below hb)
  replace HC := Lib.hid ((HC.out.below (below_alloc1 _ _)).below hb)
  have hk : Below w12.heap.size w12 w13 := by (repeat (first | assumption | exact Below.refl _ _ | refine Below.alloc ?_ (by (try simp) <;> omega) _ | refine below_drewN ?_ _ | refine Below.drew ?_ | refine Below.setCell ?_ (by (try simp) <;> omega) _ | refine Below.trans ?_ (Below.mono (by assumption) (by (try simp) <;> omega))))
  replace hB := hB.trans (hk.mono hB.size)
  have hzw13 := hB.size
  replace d0 := keep hk d0
  replace d1 := keep hk d1
  have ld0 := lt_of_cell d0
  clear hk hb
  go_wp2_with fail
  refine (bags_any _).mono ?_
  rintro e w14 ⟨v, rfl, hl, hb⟩
  obtain ⟨ba, bc, rfl, hbc, h2⟩ := rd_two hl
  have H2 := Lib.hid h2
  clear h2 hl
  replace HW := Lib.hid (HW.out.below hb)
  replace HC := Lib.hid (HC.out.below hb)
  have hk : Below w13.heap.size w13 w14 := by (repeat (first | assumption | exact Below.refl _ _ | refine Below.alloc ?_ (by (try simp) <;> omega) _ | refine below_drewN ?_ _ | refine Below.drew ?_ | refine Below.setCell ?_ (by (try simp) <;> omega) _ | refine Below.trans ?_ (Below.mono (by assumption) (by (try simp) <;> omega))))
  replace hB := hB.trans (hk.mono hB.size)
  have hzw14 := hB.size
  replace d0 := keep hk d0
  replace d1 := keep hk d1
  replace f0 := keep hk f0
  replace f1 := keep hk f1
  have ld0 := lt_of_cell d0
  have lf0 := lt_of_cell f0
  clear hk hb
  go_wp2_with fail
  refine (judge_ok 1 100 _ (exBags.take 2) _ H2.out beg2).mono ?_
  rw [ver2]
  rintro e w15 ⟨rfl, hb⟩
  replace HW := Lib.hid (HW.out.below hb)
  replace HC := Lib.hid (HC.out.below hb)
  clear H2
  have hk : Below w14.heap.size w14 w15 := by (repeat (first | assumption | exact Below.refl _ _ | refine Below.alloc ?_ (by (try simp) <;> omega) _ | refine below_drewN ?_ _ | refine Below.drew ?_ | refine Below.setCell ?_ (by (try simp) <;> omega) _ | refine Below.trans ?_ (Below.mono (by assumption) (by (try simp) <;> omega))))
  replace hB := hB.trans (hk.mono hB.size)
  have hzw15 := hB.size
  replace d0 := keep hk d0
  replace d1 := keep hk d1
  replace f0 := keep hk f0
  replace f1 := keep hk f1
  have ld0 := lt_of_cell d0
  have lf0 := lt_of_cell f0
  clear hk hb
  go_wp2_with fail
  refine (sort_any _ _).mono ?_
  rintro e w16 ⟨rfl, hb⟩
  replace HW := Lib.hid (HW.out.below hb)
  replace HC := Lib.hid (HC.out.below hb)
  have hk : Below w15.heap.size w15 w16 := by (repeat (first | assumption | exact Below.refl _ _ | refine Below.alloc ?_ (by (try simp) <;> omega) _ | refine below_drewN ?_ _ | refine Below.drew ?_ | refine Below.setCell ?_ (by (try simp) <;> omega) _ | refine Below.trans ?_ (Below.mono (by assumption) (by (try simp) <;> omega))))
  replace hB := hB.trans (hk.mono hB.size)
  have hzw16 := hB.size
  replace d0 := keep hk d0
  replace d1 := keep hk d1
  replace f0 := keep hk f0
  replace f1 := keep hk f1
  have ld0 := lt_of_cell d0
  have lf0 := lt_of_cell f0
  clear hk hb
  go_wp2_with fail
  refine (bags_any _).mono ?_
  rintro e w17 ⟨v, rfl, hl, hb⟩
  have H3 := Lib.hid hl
  clear hl
  replace HW := Lib.hid (HW.out.below hb)
  replace HC := Lib.hid (HC.out.below hb)
  have hk : Below w16.heap.size w16 w17 := by (repeat (first | assumption | exact Below.refl _ _ | refine Below.alloc ?_ (by (try simp) <;> omega) _ | refine below_drewN ?_ _ | refine Below.drew ?_ | refine Below.setCell ?_ (by (try simp) <;> omega) _ | refine Below.trans ?_ (Below.mono (by assumption) (by (try simp) <;> omega))))
  replace hB := hB.trans (hk.mono hB.size)
  have hzw17 := hB.size
  replace d0 := keep hk d0
  replace d1 := keep hk d1
  replace f0 := keep hk f0
  replace f1 := keep hk f1
  have ld0 := lt_of_cell d0
  have lf0 := lt_of_cell f0
  clear hk hb
  go_wp2_with fail
  refine (best_ok 1 150 _ exBags _ H3.out beg3).mono ?_
  rw [bes3]
  rintro e w18 ⟨bv, rfl, hbs, hb⟩
  have HBS := Lib.hid hbs
  replace HW := Lib.hid (HW.out.below hb)
  replace HC := Lib.hid (HC.out.below hb)
  clear H3 hbs
  have hk : Below w17.heap.size w17 w18 := by (repeat (first | assumption | exact Below.refl _ _ | refine Below.alloc ?_ (by (try simp) <;> omega) _ | refine below_drewN ?_ _ | refine Below.drew ?_ | refine Below.setCell ?_ (by (try simp) <;> omega) _ | refine Below.trans ?_ (Below.mono (by assumption) (by (try simp) <;> omega))))
  replace hB := hB.trans (hk.mono hB.size)
  have hzw18 := hB.size
  replace d0 := keep hk d0
  replace d1 := keep hk d1
  replace f0 := keep hk f0
  replace f1 := keep hk f1
  have ld0 := lt_of_cell d0
  have lf0 := lt_of_cell f0
  clear hk hb
  go_wp2_with fail
  refine (line_any _).mono ?_
  rintro e w19 ⟨v, rfl, hl, hb⟩
  have HL := Lib.hid hl
  replace HW := Lib.hid (HW.out.below hb)
  replace HC := Lib.hid (HC.out.below hb)
  replace HBS := Lib.hid (HBS.out.below hb)
  clear hl
  have hk : Below w18.heap.size w18 w19 := by (repeat (first | assumption | exact Below.refl _ _ | refine Below.alloc ?_ (by (try simp) <;> omega) _ | refine below_drewN ?_ _ | refine Below.drew ?_ | refine Below.setCell ?_ (by (try simp) <;> omega) _ | refine Below.trans ?_ (Below.mono (by assumption) (by (try simp) <;> omega))))
  replace hB := hB.trans (hk.mono hB.size)
  have hzw19 := hB.size
  replace d0 := keep hk d0
  replace d1 := keep hk d1
  replace f0 := keep hk f0
  replace f1 := keep hk f1
  have ld0 := lt_of_cell d0
  have lf0 := lt_of_cell f0
  clear hk hb
  go_wp2_with fail
  refine (readings_any _ _ _).mono ?_
  rintro e w20 ⟨rv, rfl, hr, hb⟩
  replace HL := Lib.hid (HL.out.below hb)
  replace HW := Lib.hid (HW.out.below hb)
  replace HC := Lib.hid (HC.out.below hb)
  replace HBS := Lib.hid (HBS.out.below hb)
  have HR := Lib.hid hr
  clear hr
  have hk : Below w19.heap.size w19 w20 := by (repeat (first | assumption | exact Below.refl _ _ | refine Below.alloc ?_ (by (try simp) <;> omega) _ | refine below_drewN ?_ _ | refine Below.drew ?_ | refine Below.setCell ?_ (by (try simp) <;> omega) _ | refine Below.trans ?_ (Below.mono (by assumption) (by (try simp) <;> omega))))
  replace hB := hB.trans (hk.mono hB.size)
  have hzw20 := hB.size
  replace d0 := keep hk d0
  replace d1 := keep hk d1
  replace f0 := keep hk f0
  replace f1 := keep hk f1
  have ld0 := lt_of_cell d0
  have lf0 := lt_of_cell f0
  clear hk hb
  go_wp2_with fail
  refine (cheats_any 50 exLine [1000, -1, 820, 805] _ _ _ HL.out HR.out names_ex).mono ?_
  rw [none1.1, none1.2]
  rintro e w21 ⟨nv, rfl, -, hb⟩
  replace HW := Lib.hid (HW.out.below hb)
  replace HC := Lib.hid (HC.out.below hb)
  replace HBS := Lib.hid (HBS.out.below hb)
  clear HL HR
  have hk : Below w20.heap.size w20 w21 := by (repeat (first | assumption | exact Below.refl _ _ | refine Below.alloc ?_ (by (try simp) <;> omega) _ | refine below_drewN ?_ _ | refine Below.drew ?_ | refine Below.setCell ?_ (by (try simp) <;> omega) _ | refine Below.trans ?_ (Below.mono (by assumption) (by (try simp) <;> omega))))
  replace hB := hB.trans (hk.mono hB.size)
  have hzw21 := hB.size
  replace d0 := keep hk d0
  replace d1 := keep hk d1
  replace f0 := keep hk f0
  replace f1 := keep hk f1
  have ld0 := lt_of_cell d0
  have lf0 := lt_of_cell f0
  clear hk hb
  obtain ⟨D, hD⟩ : ∃ D, w6.heap.size = D := ⟨_, rfl⟩
  obtain ⟨F, hF⟩ : ∃ F, w12.heap.size = F := ⟨_, rfl⟩
  rw [hD] at d0 d1 ⊢
  rw [hF] at f0 f1 ⊢
  go_wp2_with fail
  have HW21 := Lib.hid hB
  clear hB
  have z1 : D < w21.heap.size := by omega
  have z2 : F < w21.heap.size := by omega
  clear ld0 lf0 hD hF hzw1 hzw2 hzw3 hzw4 hzw5 hzw6 hzw7 hzw8 hzw9 hzw10 hzw11 hzw12 hzw13 hzw14 hzw15 hzw16 hzw17 hzw18 hzw19 hzw20 hbc
  go_region_held3 (fun w' => w'.cell? ⟨D, 0, none⟩ = some (.int .i64 135) ∧ w'.cell? ⟨D, 1, none⟩ = some (.int .i64 255) ∧ w'.cell? ⟨F, 0, none⟩ = some (.int .i64 210) ∧ w'.cell? ⟨F, 1, none⟩ = some (.int .i64 450) ∧ Below w21.heap.size w21 w')
    (first | (go_split_ands; refine ⟨?_, ?_, ?_, ?_, ?_⟩ <;> with_reducible first | (refine keep hb ?_; assumption) | exact belTrans (by assumption) hb) | (go_split_ands; refine ⟨?_, ?_, ?_, ?_, ?_⟩ <;> with_reducible first | assumption | exact belAlloc (by assumption) _ | exact Below.drew (by assumption) | exact Below.drew (Below.refl _ _) | (refine keep (below_alloc1 _ _) ?_; assumption) | go_keep))
    (first
      | (go_at_call 44; refine (span_any _ _ _).mono ?_; rintro e w3 ⟨rfl, hb⟩)
      | (go_at_call 43; rename_i hHH _ _; have hR2 := Rd.made4s w3 _ (950, 1050) (850, 990) (800, 840) (795, 815) 23 rfl; obtain ⟨wX, hX⟩ : ∃ wX, w3.alloc (.cells #[.int .i64 950, .int .i64 1050, .int .i64 850, .int .i64 990, .int .i64 800, .int .i64 840, .int .i64 795, .int .i64 815] 23) = wX := ⟨_, rfl⟩; rw [hX] at hHH hR2 ⊢; refine (refSpans_same _ _ [(950, 1050), (850, 990), (800, 840), (795, 815)] _ (HW.out.below hHH.2.2.2.2) hR2).mono ?_; clear hX hR2 hb; rintro e w3 ⟨rfl, hb⟩)
      | (go_at_call 45; rename_i hHH _ _; have hR2 := Rd.made2 w3 _ (.int .i64 2) (.int .i64 3) 3 rfl; obtain ⟨wX, hX⟩ : ∃ wX, w3.alloc (.cells #[.int .i64 2, .int .i64 3] 3) = wX := ⟨_, rfl⟩; rw [hX] at hHH hR2 ⊢; refine (refInts_same _ _ [2, 3] _ (HC.out.below hHH.2.2.2.2) hR2).mono ?_; clear hX hR2 hb; rintro e w3 ⟨rfl, hb⟩)
      | (go_at_call 45; rename_i hHH _ _; have hR2 := Rd.made2 w3 _ (.int .i64 0) (.int .i64 1) 3 rfl; obtain ⟨wX, hX⟩ : ∃ wX, w3.alloc (.cells #[.int .i64 0, .int .i64 1] 3) = wX := ⟨_, rfl⟩; rw [hX] at hHH hR2 ⊢; refine (refInts_same _ _ [0, 1] _ (HBS.out.below hHH.2.2.2.2) hR2).mono ?_; clear hX hR2 hb; rintro e w3 ⟨rfl, hb⟩))
  rename_i hH2
  have hfin := belTrans HW21.out hH2.2.2.2.2
  clear hH2
  go_wp2_with fail
  go_ret
  exact ⟨rfl, hfin⟩

end Go.Proofs.YtcncmlpppabbcaaGreat
