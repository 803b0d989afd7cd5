/- The statement 'StubCheats', walked: Cheats and Off return what the reference's do. -/
import Derived.Test.YtnombgiacfeloaaW30
import Derived.Test.YtnombgiacfeloaaW19
import Derived.Test.YtnombgiacfeloaaR6
import Derived.Test.YtnombgiacfeloaaW15
namespace Go.Proofs.Ytnombgiacfeloaa
set_option linter.unusedVariables false
set_option linter.unusedSimpArgs false
open Go.RowKit

set_option maxRecDepth 100000 in
set_option maxHeartbeats 4000000 in
theorem cheats_law (err : Int) (v : Value) (ss : List Stp) (rv : Value) (rs : List Int) (y0 : Int) (w : World) (h : Rd w 4 v (stpRows ss)) (hs : NamesFit ss) (hr : Rd w 1 rv (ints rs)) :
    Calls Try.prog 4 #[.agg #[.int .i64 err, v], rv, .int .i64 y0] w fun e w' => e = .returned (.bool true) ∧ Below w.heap.size w w' := by
  have HR := Lib.hid h
  have HQ := Lib.hid hr
  have c19 := fun w' h h' => cheats_any err ss rs v rv w' h h' hs
  have c20 := fun w' h h' => refCheats_any err ss rs v rv w' h h' hs
  have c22 := fun w' h h' => off_any err ss rs v rv y0 w' h h' hs
  have c23 := fun w' h h' => refOff_any err ss rs v rv y0 w' h h' hs
  generalize cAt err ss rs = WA at *
  generalize cErr err ss rs = WE at *
  generalize offAt err ss rs y0 = LA at *
  generalize offErr err ss rs y0 = LE at *
  obtain ⟨l1, l2⟩ := LA
  dsimp only at c22 c23
  have C19 := Lib.hid c19
  have C20 := Lib.hid c20
  have C22 := Lib.hid c22
  have C23 := Lib.hid c23
  clear c19 c20 c22 c23 h hs hr
  go_enter Try.func4, Try.ntmps4
  go_upto_region 1 with fail
  obtain ⟨W0, hW0⟩ : ∃ W0, w.alloc (.cells #[.int .i64 err, v] 24) = W0 := ⟨_, rfl⟩
  have c0 : W0.cell? ⟨w.heap.size, 0, none⟩ = some (.int .i64 err) := by rw [← hW0]; simp [go_sem]
  have c1 : W0.cell? ⟨w.heap.size, 1, none⟩ = some v := by rw [← hW0]; simp [go_sem]
  have hB : Below w.heap.size w W0 := by rw [← hW0]; exact below_alloc1 _ _
  rw [hW0]
  clear hW0
  go_wp2_with fail
  refine (C19.out _ (HR.out.below hB) (HQ.out.below hB)).mono ?_
  rintro e w3 ⟨u1, rfl, hu1, hb⟩
  replace c0 := keep hb c0
  replace c1 := keep hb c1
  replace hB := belT hB hb
  have U1 := Lib.hid hu1
  clear hb C19 hu1
  go_wp2_with fail
  refine (C20.out _ (HR.out.below hB) (HQ.out.below hB)).mono ?_
  rintro e w4 ⟨u2, rfl, hu2, hb⟩
  replace c0 := keep hb c0
  replace c1 := keep hb c1
  replace hB := belT hB hb
  replace U1 := Lib.hid (U1.out.below hb)
  have U2 := Lib.hid hu2
  clear hb C20 hu2
  go_wp2_with fail
  refine (refInts_any u1 u2 WA WA _ U1.out U2.out).mono ?_
  rintro e w5 ⟨rfl, hb⟩
  rw [decide_eq_true (rfl : WA = WA)]
  replace c0 := keep hb c0
  replace c1 := keep hb c1
  replace hB := belT hB hb
  clear hb U1 U2
  go_wp2_with fail
  refine (C22.out _ (HR.out.below hB) (HQ.out.below hB)).mono ?_
  rintro e w6 ⟨rfl, hb⟩
  replace c0 := keep hb c0
  replace c1 := keep hb c1
  replace hB := belT hB hb
  clear hb C22
  go_upto_region 6 with fail
  obtain ⟨W7, hW7⟩ : ∃ W7, w6.alloc (.cells #[.int .i64 l1, .int .i64 l2] 35) = W7 := ⟨_, rfl⟩
  have hk7 : Below w6.heap.size w6 W7 := by rw [← hW7]; exact below_alloc1 _ _
  have s0 : W7.cell? ⟨w6.heap.size, 0, none⟩ = some (.int .i64 l1) := by rw [← hW7]; simp [go_sem]
  have s1 : W7.cell? ⟨w6.heap.size, 1, none⟩ = some (.int .i64 l2) := by rw [← hW7]; simp [go_sem]
  rw [hW7]
  replace c0 := keep hk7 c0
  replace c1 := keep hk7 c1
  replace hB := belT hB hk7
  clear hW7 hk7
  go_wp2_with fail
  refine (C23.out _ (HR.out.below hB) (HQ.out.below hB)).mono ?_
  rintro e w8 ⟨rfl, hb⟩
  replace s0 := keep hb s0
  replace s1 := keep hb s1
  replace hB := belT hB hb
  clear hb C23 c0 c1
  go_upto_region 7 with fail
  obtain ⟨W9, hW9⟩ : ∃ W9, w8.alloc (.cells #[.int .i64 l1, .int .i64 l2] 35) = W9 := ⟨_, rfl⟩
  have hk9 : Below w8.heap.size w8 W9 := by rw [← hW9]; exact below_alloc1 _ _
  have t0 : W9.cell? ⟨w8.heap.size, 0, none⟩ = some (.int .i64 l1) := by rw [← hW9]; simp [go_sem]
  have t1 : W9.cell? ⟨w8.heap.size, 1, none⟩ = some (.int .i64 l2) := by rw [← hW9]; simp [go_sem]
  rw [hW9]
  replace s0 := keep hk9 s0
  replace s1 := keep hk9 s1
  replace hB := belT hB hk9
  clear hW9 hk9
  go_wp2_with fail
  refine (awake_any _).mono ?_
  rintro e w10 ⟨rfl, hb⟩
  replace hB := belT hB hb
  clear hb s0 s1 t0 t1
  go_wp2_with fail
  go_ret
  exact ⟨rfl, hB⟩

end Go.Proofs.Ytnombgiacfeloaa
