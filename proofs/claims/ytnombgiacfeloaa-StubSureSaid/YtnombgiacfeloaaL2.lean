/- The statement 'StubSure', walked: in any truth, bags that surely make a sort do, and bags that never do don't. -/
import Derived.Test.YtnombgiacfeloaaL1
import Derived.Test.YtnombgiacfeloaaW21
import Derived.Test.YtnombgiacfeloaaP2
namespace Go.Proofs.Ytnombgiacfeloaa
set_option linter.unusedVariables false
set_option linter.unusedSimpArgs false
open Go.RowKit

set_option maxRecDepth 100000 in
set_option maxHeartbeats 4000000 in
theorem sure_law (a f : Int) (v : Value) (bs : List Bag) (gv : Value) (gs : List Int) (qv : Value) (qs : List Int) (w : World) (h : Rd w 3 v (bagRows bs))
    (hgr : Rd w 1 gv (nums gs)) (hgb : ∀ z ∈ gs, 0 ≤ z ∧ z ≤ 65535) (hqr : Rd w 1 qv (nums qs)) (hqb : ∀ z ∈ qs, 0 ≤ z ∧ z ≤ 65535) :
    Calls Try.prog 12 #[.agg #[.int .i64 a, .int .i64 f], v, .agg #[gv, qv]] w fun e w' => e = .returned (.bool true) ∧ Below w.heap.size w w' := by
  have hB := Below.refl w.heap.size w
  have hW2 : Below w.heap.size w ((w.alloc (.cells #[.int .i64 a, .int .i64 f] 46)).alloc (.cells #[gv, qv] 83)) := by (repeat (first | assumption | exact Below.refl _ _ | refine Below.alloc ?_ (by (try simp) <;> omega) _ | refine below_drewN ?_ _ | refine Below.drew ?_ | refine Below.setCell ?_ (by (try simp) <;> omega) _ | refine Below.trans ?_ (Below.mono (by assumption) (by (try simp) <;> omega))))
  have HR := Lib.hid (h.below hW2)
  have GR := Lib.hid (hgr.below hW2)
  have QR := Lib.hid (hqr.below hW2)
  clear h hgr hqr hW2
  by_cases he : beginErr a f bs = 0
  · obtain ⟨ha, ⟨hf0, hf⟩, hlen, hg, -⟩ := beginErr_ok he
    obtain ⟨v1, v2⟩ := verdict_ends ha hf0 hf hg
    obtain ⟨b1, b2, b3, b4⟩ := part_bd hg a
    have k1 := sumTo_bd _ bs 1000000 b1 bs.length (Nat.le_refl _)
    have k2 := sumTo_bd _ bs 1000000 b2 bs.length (Nat.le_refl _)
    have k3 := sumTo_bd _ bs 1000000 b3 bs.length (Nat.le_refl _)
    have k4 := sumTo_bd _ bs 1000000 b4 bs.length (Nat.le_refl _)
    have HE := Lib.hid he
    have HG := Lib.hid hg
    have hv := judgeR_eq a f bs
    have vr := verdict_range a f bs
    have j1 := judge_ok a f v bs _ HR.out he
    have j2 := fun w' (h : Rd w' 3 v (bagRows bs)) hgr hqr => heap_any a f v gv qv bs gs qs w' h hgr hgb hqr hqb ha hlen hg
    have fits : ∀ F G, Between a bs bs.length F G → (0 ≤ F ∧ F ≤ 100000000) ∧ (0 ≤ G ∧ G ≤ 100000000) ∧ (judgeR a f bs = 1 → fitsR f F G = true) ∧ (judgeR a f bs = 0 → fitsR f F G = false) := by
      intro F G hbt
      obtain ⟨c1, c2, c3, c4⟩ := hbt
      refine ⟨by omega, by omega, fun hj => ?_, fun hj => ?_⟩
      · rw [hj] at v2
        exact fits_mono hf hf0 c2 c3 (by rw [v2]; rfl)
      · rw [hj] at v1
        cases hb : fitsR f F G
        · rfl
        · have := fits_mono hf hf0 c1 c4 hb
          rw [v1] at this
          simp at this
    clear b1 b2 b3 b4 k1 k2 k3 k4 v1 v2
    rw [← hv] at j1
    generalize judgeR a f bs = V at *
    have J1 := Lib.hid j1
    have J2 := Lib.hid j2
    have FT := Lib.hid fits
    clear j1 j2 hv he hg fits
    rcases vr with rfl | rfl | rfl
    all_goals
      go_enter Try.func12, Try.ntmps12
      go_wp2_with fail
      refine J1.out.mono ?_
      rintro e w1 ⟨rfl, hb⟩
      have c0 : w1.cell? ⟨w.heap.size, 0, none⟩ = some (.int .i64 a) := keep hb (by simp [go_sem])
      have c1 : w1.cell? ⟨w.heap.size, 1, none⟩ = some (.int .i64 f) := keep hb (by simp [go_sem])
      have x0 : w1.cell? ⟨w.heap.size + 1, 0, none⟩ = some gv := keep hb (by simp [go_sem])
      have x1 : w1.cell? ⟨w.heap.size + 1, 1, none⟩ = some qv := keep hb (by simp [go_sem])
      have HR1 := Lib.hid (HR.out.below hb)
      have GR1 := Lib.hid (GR.out.below hb)
      have QR1 := Lib.hid (QR.out.below hb)
      clear J1
      have hk : Below w.heap.size w w1 := by (repeat (first | assumption | exact Below.refl _ _ | refine Below.alloc ?_ (by (try simp) <;> omega) _ | refine below_drewN ?_ _ | refine Below.drew ?_ | refine Below.setCell ?_ (by (try simp) <;> omega) _ | refine Below.trans ?_ (Below.mono (by assumption) (by (try simp) <;> omega))))
      replace hB := hB.trans (hk.mono hB.size)
      have hzw1 := hB.size
      clear hk hb
      go_wp2_with fail
      refine (refBags_any a f v bs _ HR1.out).mono ?_
      rw [HE.out]
      rintro e w2 ⟨rfl, hb⟩
      have HR2 := Lib.hid (HR1.out.below hb)
      have GR2 := Lib.hid (GR1.out.below hb)
      have QR2 := Lib.hid (QR1.out.below hb)
      have hk : Below w1.heap.size w1 w2 := by (repeat (first | assumption | exact Below.refl _ _ | refine Below.alloc ?_ (by (try simp) <;> omega) _ | refine below_drewN ?_ _ | refine Below.drew ?_ | refine Below.setCell ?_ (by (try simp) <;> omega) _ | refine Below.trans ?_ (Below.mono (by assumption) (by (try simp) <;> omega))))
      replace hB := hB.trans (hk.mono hB.size)
      have hzw2 := hB.size
      replace c0 := keep hk c0
      replace c1 := keep hk c1
      replace x0 := keep hk x0
      replace x1 := keep hk x1
      have lc0 := lt_of_cell c0
      have lx0 := lt_of_cell x0
      clear hk hb
      go_wp2_with fail
      refine (J2.out _ HR2.out GR2.out QR2.out).mono ?_
      rintro e w3 ⟨F, G, rfl, hbt, hb⟩
      obtain ⟨bF, bG, ft1, ft0⟩ := FT.out F G hbt
      obtain ⟨is, his⟩ : ∃ is, fitsR f F G = is := ⟨_, rfl⟩
      rw [his] at ft1 ft0
      clear hbt
      have hk : Below w2.heap.size w2 w3 := by (repeat (first | assumption | exact Below.refl _ _ | refine Below.alloc ?_ (by (try simp) <;> omega) _ | refine below_drewN ?_ _ | refine Below.drew ?_ | refine Below.setCell ?_ (by (try simp) <;> omega) _ | refine Below.trans ?_ (Below.mono (by assumption) (by (try simp) <;> omega))))
      replace hB := hB.trans (hk.mono hB.size)
      have hzw3 := hB.size
      replace c0 := keep hk c0
      replace c1 := keep hk c1
      replace x0 := keep hk x0
      replace x1 := keep hk x1
      have lc0 := lt_of_cell c0
      have lx0 := lt_of_cell x0
      clear hk hb
      go_wp2_with fail
      refine (fits_at a f F G _ his hf0 hf bF bG _).mono ?_
      rintro e w4 ⟨rfl, hb⟩
      have hk : Below w3.heap.size w3 w4 := by (repeat (first | assumption | exact Below.refl _ _ | refine Below.alloc ?_ (by (try simp) <;> omega) _ | refine below_drewN ?_ _ | refine Below.drew ?_ | refine Below.setCell ?_ (by (try simp) <;> omega) _ | refine Below.trans ?_ (Below.mono (by assumption) (by (try simp) <;> omega))))
      replace hB := hB.trans (hk.mono hB.size)
      have hzw4 := hB.size
      replace c0 := keep hk c0
      replace c1 := keep hk c1
      replace x0 := keep hk x0
      replace x1 := keep hk x1
      have lc0 := lt_of_cell c0
      have lx0 := lt_of_cell x0
      clear hk hb
      clear his
    · obtain rfl := ft0 trivial
      clear ft1 ft0
      go_wp2_with fail
      refine (awake_any _).mono ?_
      rintro e w7 ⟨rfl, hb⟩
      have hk : Below w4.heap.size w4 w7 := by (repeat (first | assumption | exact Below.refl _ _ | refine Below.alloc ?_ (by (try simp) <;> omega) _ | refine below_drewN ?_ _ | refine Below.drew ?_ | refine Below.setCell ?_ (by (try simp) <;> omega) _ | refine Below.trans ?_ (Below.mono (by assumption) (by (try simp) <;> omega))))
      replace hB := hB.trans (hk.mono hB.size)
      have hzw7 := hB.size
      replace c0 := keep hk c0
      replace c1 := keep hk c1
      have lc0 := lt_of_cell c0
      clear hk hb
      go_wp2_with fail
      go_ret
      exact ⟨rfl, hB⟩
    · obtain rfl := ft1 trivial
      clear ft1 ft0
      go_wp2_with fail
      refine (awake_any _).mono ?_
      rintro e w7 ⟨rfl, hb⟩
      have hk : Below w4.heap.size w4 w7 := by (repeat (first | assumption | exact Below.refl _ _ | refine Below.alloc ?_ (by (try simp) <;> omega) _ | refine below_drewN ?_ _ | refine Below.drew ?_ | refine Below.setCell ?_ (by (try simp) <;> omega) _ | refine Below.trans ?_ (Below.mono (by assumption) (by (try simp) <;> omega))))
      replace hB := hB.trans (hk.mono hB.size)
      have hzw7 := hB.size
      replace c0 := keep hk c0
      replace c1 := keep hk c1
      have lc0 := lt_of_cell c0
      clear hk hb
      go_wp2_with fail
      go_ret
      exact ⟨rfl, hB⟩
    · clear ft1 ft0
      cases is
      all_goals
        go_wp2_with fail
        refine (awake_any _).mono ?_
        rintro e w7 ⟨rfl, hb⟩
        have hk : Below w4.heap.size w4 w7 := by (repeat (first | assumption | exact Below.refl _ _ | refine Below.alloc ?_ (by (try simp) <;> omega) _ | refine below_drewN ?_ _ | refine Below.drew ?_ | refine Below.setCell ?_ (by (try simp) <;> omega) _ | refine Below.trans ?_ (Below.mono (by assumption) (by (try simp) <;> omega))))
        replace hB := hB.trans (hk.mono hB.size)
        have hzw7 := hB.size
        replace c0 := keep hk c0
        replace c1 := keep hk c1
        have lc0 := lt_of_cell c0
        clear hk hb
        go_wp2_with fail
        go_ret
        exact ⟨rfl, hB⟩
  · have j1 := judge_no a f v bs _ HR.out he
    have j2 := fun w' (h : Rd w' 3 v (bagRows bs)) => refBags_any a f v bs w' h
    generalize beginErr a f bs = E at *
    have t1 : (E != 0) = true := by rw [bne_iff_ne]; exact he
    have J1 := Lib.hid j1
    have J2 := Lib.hid j2
    clear j1 j2 he
    go_enter Try.func12, Try.ntmps12
    go_wp2_with fail
    refine J1.out.mono ?_
    rintro e w1 ⟨rfl, hb⟩
    have c0 : w1.cell? ⟨w.heap.size, 0, none⟩ = some (.int .i64 a) := keep hb (by simp [go_sem])
    have c1 : w1.cell? ⟨w.heap.size, 1, none⟩ = some (.int .i64 f) := keep hb (by simp [go_sem])
    have HR1 := Lib.hid (HR.out.below hb)
    clear J1
    have hk : Below w.heap.size w w1 := by (repeat (first | assumption | exact Below.refl _ _ | refine Below.alloc ?_ (by (try simp) <;> omega) _ | refine below_drewN ?_ _ | refine Below.drew ?_ | refine Below.setCell ?_ (by (try simp) <;> omega) _ | refine Below.trans ?_ (Below.mono (by assumption) (by (try simp) <;> omega))))
    replace hB := hB.trans (hk.mono hB.size)
    have hzw1 := hB.size
    clear hk hb
    go_wp2_with fail
    refine (J2.out _ HR1.out).mono ?_
    rintro e w2 ⟨rfl, hb⟩
    have HR2 := Lib.hid (HR1.out.below hb)
    have hk : Below w1.heap.size w1 w2 := by (repeat (first | assumption | exact Below.refl _ _ | refine Below.alloc ?_ (by (try simp) <;> omega) _ | refine below_drewN ?_ _ | refine Below.drew ?_ | refine Below.setCell ?_ (by (try simp) <;> omega) _ | refine Below.trans ?_ (Below.mono (by assumption) (by (try simp) <;> omega))))
    replace hB := hB.trans (hk.mono hB.size)
    have hzw2 := hB.size
    replace c0 := keep hk c0
    replace c1 := keep hk c1
    have lc0 := lt_of_cell c0
    clear hk hb
    go_wp2_with fail
    refine (J2.out _ HR2.out).mono ?_
    rintro e w3 ⟨rfl, hb⟩
    have hk : Below w2.heap.size w2 w3 := by (repeat (first | assumption | exact Below.refl _ _ | refine Below.alloc ?_ (by (try simp) <;> omega) _ | refine below_drewN ?_ _ | refine Below.drew ?_ | refine Below.setCell ?_ (by (try simp) <;> omega) _ | refine Below.trans ?_ (Below.mono (by assumption) (by (try simp) <;> omega))))
    replace hB := hB.trans (hk.mono hB.size)
    have hzw3 := hB.size
    replace c0 := keep hk c0
    replace c1 := keep hk c1
    have lc0 := lt_of_cell c0
    clear hk hb
    go_wp2_with fail
    refine (awake_any _).mono ?_
    rintro e w4 ⟨rfl, hb⟩
    have hk : Below w3.heap.size w3 w4 := by (repeat (first | assumption | exact Below.refl _ _ | refine Below.alloc ?_ (by (try simp) <;> omega) _ | refine below_drewN ?_ _ | refine Below.drew ?_ | refine Below.setCell ?_ (by (try simp) <;> omega) _ | refine Below.trans ?_ (Below.mono (by assumption) (by (try simp) <;> omega))))
    replace hB := hB.trans (hk.mono hB.size)
    have hzw4 := hB.size
    replace c0 := keep hk c0
    replace c1 := keep hk c1
    have lc0 := lt_of_cell c0
    clear hk hb
    go_wp2_with fail
    go_ret
    exact ⟨rfl, hB⟩

end Go.Proofs.Ytnombgiacfeloaa
