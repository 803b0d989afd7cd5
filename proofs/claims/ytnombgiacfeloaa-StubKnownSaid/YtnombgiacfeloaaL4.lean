/- The statement 'StubKnown', walked: the examples of the document. -/
import Derived.Test.YtnombgiacfeloaaL1
import Derived.Deep.DeepCutAuto
import Derived.Deep.RegionWith
namespace Go.Proofs.Ytnombgiacfeloaa
set_option linter.unusedVariables false
set_option linter.unusedSimpArgs false
open Go.RowKit

theorem rd_one {w : World} {b o c : Nat} {x : Bag} (hc : 1 ≤ c) (h0 : w.cell? ⟨b, o, none⟩ = some (.int .i64 x.lo)) (h1 : w.cell? ⟨b, o + 1, none⟩ = some (.int .i64 x.hi)) (h2 : w.cell? ⟨b, o + 2, none⟩ = some (.int .i64 x.kinds)) : Rd w 3 (.slice (some ⟨b, o, none⟩) 1 c) (bagRows [x]) := by
  refine ⟨_, _, rfl, hc, by simp [bagRows], by simp [bagRows, Bag.row], fun _ => ⟨_, _, rfl, lt_of_cell h0, ?_⟩⟩
  intro j r hj i y hi
  cases j with
  | succ j => simp [bagRows] at hj
  | zero =>
    simp [bagRows, Bag.row] at hj
    subst hj
    match i, hi with
    | 0, hi => simp at hi; subst hi; simpa using h0
    | 1, hi => simp at hi; subst hi; simpa using h1
    | 2, hi => simp at hi; subst hi; simpa using h2
    | i + 3, hi => simp at hi

/-- The examples' bags lie in a block of their own. -/
def RetBags (w : World) (e : Ending) (w' : World) : Prop := ∃ b, e = .returned (.slice (some ⟨b, 0, none⟩) 3 3) ∧ Rd w' 3 (.slice (some ⟨b, 0, none⟩) 3 3) (bagRows exBags) ∧
  w'.cell? ⟨b, 0, none⟩ = some (.int .i64 500) ∧ w'.cell? ⟨b, 1, none⟩ = some (.int .i64 520) ∧ w'.cell? ⟨b, 2, none⟩ = some (.int .i64 1) ∧
  w'.cell? ⟨b, 6, none⟩ = some (.int .i64 100) ∧ w'.cell? ⟨b, 7, none⟩ = some (.int .i64 110) ∧ w'.cell? ⟨b, 8, none⟩ = some (.int .i64 2) ∧ Below w.heap.size w w'

set_option maxHeartbeats 400000 in
theorem bags_cells (w : World) : Calls Try.prog 37 #[] w (RetBags w) := by
  have hB := Below.refl w.heap.size w
  go_enter Try.func37, Try.ntmps37
  go_wp2_with fail
  refine (span_any 500 520 _).mono ?_
  rintro e w1 ⟨rfl, hb⟩
  have hk : Below w.heap.size w w1 := by (repeat (first | assumption | exact Below.refl _ _ | refine Below.alloc ?_ (by (try simp) <;> omega) _ | refine below_drewN ?_ _ | refine Below.drew ?_ | refine Below.setCell ?_ (by (try simp) <;> omega) _ | refine Below.trans ?_ (Below.mono (by assumption) (by (try simp) <;> omega))))
  replace hB := hB.trans (hk.mono hB.size)
  have hzw1 := hB.size
  clear hk hb
  go_wp2_with fail
  refine (span_any 40 60 _).mono ?_
  rintro e w2 ⟨rfl, hb⟩
  have hk : Below w1.heap.size w1 w2 := by (repeat (first | assumption | exact Below.refl _ _ | refine Below.alloc ?_ (by (try simp) <;> omega) _ | refine below_drewN ?_ _ | refine Below.drew ?_ | refine Below.setCell ?_ (by (try simp) <;> omega) _ | refine Below.trans ?_ (Below.mono (by assumption) (by (try simp) <;> omega))))
  replace hB := hB.trans (hk.mono hB.size)
  have hzw2 := hB.size
  clear hk hb
  go_wp2_with fail
  refine (span_any 100 110 _).mono ?_
  rintro e w3 ⟨rfl, hb⟩
  have hk : Below w2.heap.size w2 w3 := by (repeat (first | assumption | exact Below.refl _ _ | refine Below.alloc ?_ (by (try simp) <;> omega) _ | refine below_drewN ?_ _ | refine Below.drew ?_ | refine Below.setCell ?_ (by (try simp) <;> omega) _ | refine Below.trans ?_ (Below.mono (by assumption) (by (try simp) <;> omega))))
  replace hB := hB.trans (hk.mono hB.size)
  have hzw3 := hB.size
  clear hk hb
  go_wp2_with fail
  go_ret
  exact ⟨_, rfl, rd_new w3 w 0 _ 3 (bagRows exBags) _ rfl (by simp [bagRows, exBags, Bag.row]) (by decide) (by decide), by simp [go_sem], by simp [go_sem], by simp [go_sem], by simp [go_sem], by simp [go_sem], by simp [go_sem], by (repeat (first | assumption | exact Below.refl _ _ | refine Below.alloc ?_ (by (try simp) <;> omega) _ | refine below_drewN ?_ _ | refine Below.drew ?_ | refine Below.setCell ?_ (by (try simp) <;> omega) _ | refine Below.trans ?_ (Below.mono (by assumption) (by (try simp) <;> omega))))⟩

theorem rd_made2 (w : World) : Rd (w.alloc (.cells #[.int .i64 500, .int .i64 520, .int .i64 1, .int .i64 100, .int .i64 110, .int .i64 2] 57)) 3 (.slice (some ⟨w.heap.size, 0, none⟩) 2 2) (bagRows [⟨500, 520, 1⟩, ⟨100, 110, 2⟩]) :=
  rd_new w w 0 _ 3 (bagRows [⟨500, 520, 1⟩, ⟨100, 110, 2⟩]) 57 rfl (by simp [bagRows, Bag.row]) (by decide) (by decide)

theorem judge_two (w : World) : Calls Try.prog 30 #[.agg #[.int .i64 1, .int .i64 150], .slice (some ⟨w.heap.size, 0, none⟩) 2 2] (w.alloc (.cells #[.int .i64 500, .int .i64 520, .int .i64 1, .int .i64 100, .int .i64 110, .int .i64 2] 57)) fun e w' => e = .returned (.tuple #[.int .i64 0, .int .i64 0]) ∧ Below w.heap.size w w' := by
  have := judge_ok 1 150 _ [⟨500, 520, 1⟩, ⟨100, 110, 2⟩] _ (rd_made2 w) (by decide +kernel)
  rw [show verdict 1 150 [⟨500, 520, 1⟩, ⟨100, 110, 2⟩] = 0 by decide +kernel] at this
  exact this.mono fun e w' h => ⟨h.1, (below_alloc1 w _).trans (h.2.mono (by simp))⟩

theorem beg5 : beginErr 1 150 (exBags.take 2) = 0 := by decide +kernel
theorem beg6 : beginErr 1 150 [⟨500, 520, 1⟩, ⟨100, 110, 2⟩] = 0 := by decide +kernel
theorem beg7 : beginErr 1 150 [⟨100, 110, 2⟩] = 0 := by decide +kernel
theorem beg8 : beginErr 1 100 [⟨500, 520, 1⟩] = 0 := by decide +kernel
theorem beg9 : beginErr 1 100 exBags = 0 := by decide +kernel
theorem ver5 : verdict 1 150 (exBags.take 2) = 1 := by decide +kernel
theorem ver6 : verdict 1 150 [⟨500, 520, 1⟩, ⟨100, 110, 2⟩] = 0 := by decide +kernel
theorem ver7 : verdict 1 150 [⟨100, 110, 2⟩] = 0 := by decide +kernel
theorem ver8 : verdict 1 100 [⟨500, 520, 1⟩] = 1 := by decide +kernel
theorem bes9 : bestIdx 1 100 exBags = [0] := by decide +kernel

set_option maxRecDepth 100000 in
set_option maxHeartbeats 4000000 in
theorem known_law (w : World) : Calls Try.prog 6 #[] w fun e w' => e = .returned (.bool true) ∧ Below w.heap.size w w' := by
  have hB := Below.refl w.heap.size w
  go_enter Try.func6, Try.ntmps6
  go_wp2_with fail
  refine (line_any _).mono ?_
  rintro e w1 ⟨v, rfl, hl, hb⟩
  have HL := Lib.hid hl
  clear hl
  have hk : Below w.heap.size w w1 := by (repeat (first | assumption | exact Below.refl _ _ | refine Below.alloc ?_ (by (try simp) <;> omega) _ | refine below_drewN ?_ _ | refine Below.drew ?_ | refine Below.setCell ?_ (by (try simp) <;> omega) _ | refine Below.trans ?_ (Below.mono (by assumption) (by (try simp) <;> omega))))
  replace hB := hB.trans (hk.mono hB.size)
  have hzw1 := hB.size
  clear hk hb
  go_wp2_with fail
  refine (readings_any _ _ _).mono ?_
  rintro e w2 ⟨rv, rfl, hr, hb⟩
  have HL2 := Lib.hid (HL.out.below hb)
  have HR := Lib.hid hr
  clear HL hr
  have hk : Below w1.heap.size w1 w2 := by (repeat (first | assumption | exact Below.refl _ _ | refine Below.alloc ?_ (by (try simp) <;> omega) _ | refine below_drewN ?_ _ | refine Below.drew ?_ | refine Below.setCell ?_ (by (try simp) <;> omega) _ | refine Below.trans ?_ (Below.mono (by assumption) (by (try simp) <;> omega))))
  replace hB := hB.trans (hk.mono hB.size)
  have hzw2 := hB.size
  clear hk hb
  go_wp2_with fail
  refine (lost_any 50 exLine [1000, -1, 820, 805] _ _ 1 2 _ HL2.out HR.out names_ex).mono ?_
  rw [lost2.1, lost2.2]
  rintro e w3 ⟨rfl, hb⟩
  clear HL2 HR
  have hk : Below w2.heap.size w2 w3 := by (repeat (first | assumption | exact Below.refl _ _ | refine Below.alloc ?_ (by (try simp) <;> omega) _ | refine below_drewN ?_ _ | refine Below.drew ?_ | refine Below.setCell ?_ (by (try simp) <;> omega) _ | refine Below.trans ?_ (Below.mono (by assumption) (by (try simp) <;> omega))))
  replace hB := hB.trans (hk.mono hB.size)
  have hzw3 := hB.size
  clear hk hb
  go_wp2_with fail
  refine (line_any _).mono ?_
  rintro e w4 ⟨v, rfl, hl, hb⟩
  have d0 : w4.cell? ⟨w3.heap.size, 0, none⟩ = some (.int .i64 50) := keep hb (by simp [go_sem])
  have d1 : w4.cell? ⟨w3.heap.size, 1, none⟩ = some (.int .i64 150) := keep hb (by simp [go_sem])
  have HL := Lib.hid hl
  clear hl
  have hk : Below w3.heap.size w3 w4 := by (repeat (first | assumption | exact Below.refl _ _ | refine Below.alloc ?_ (by (try simp) <;> omega) _ | refine below_drewN ?_ _ | refine Below.drew ?_ | refine Below.setCell ?_ (by (try simp) <;> omega) _ | refine Below.trans ?_ (Below.mono (by assumption) (by (try simp) <;> omega))))
  replace hB := hB.trans (hk.mono hB.size)
  have hzw4 := hB.size
  clear hk hb
  go_wp2_with fail
  refine (readings_any _ _ _).mono ?_
  rintro e w5 ⟨rv, rfl, hr, hb⟩
  replace HL := Lib.hid (HL.out.below hb)
  have HR := Lib.hid hr
  clear hr
  have hk : Below w4.heap.size w4 w5 := by (repeat (first | assumption | exact Below.refl _ _ | refine Below.alloc ?_ (by (try simp) <;> omega) _ | refine below_drewN ?_ _ | refine Below.drew ?_ | refine Below.setCell ?_ (by (try simp) <;> omega) _ | refine Below.trans ?_ (Below.mono (by assumption) (by (try simp) <;> omega))))
  replace hB := hB.trans (hk.mono hB.size)
  have hzw5 := hB.size
  replace d0 := keep hk d0
  replace d1 := keep hk d1
  have ld0 := lt_of_cell d0
  clear hk hb
  go_wp2_with fail
  refine (cheats_any 50 exLine [1300, -1, 820, 805] _ _ _ HL.out HR.out names_ex).mono ?_
  rw [cheat3.1, cheat3.2]
  rintro e w6 ⟨cv, rfl, hc, hb⟩
  have HC := Lib.hid hc
  clear hc HL HR
  have hk : Below w5.heap.size w5 w6 := by (repeat (first | assumption | exact Below.refl _ _ | refine Below.alloc ?_ (by (try simp) <;> omega) _ | refine below_drewN ?_ _ | refine Below.drew ?_ | refine Below.setCell ?_ (by (try simp) <;> omega) _ | refine Below.trans ?_ (Below.mono (by assumption) (by (try simp) <;> omega))))
  replace hB := hB.trans (hk.mono hB.size)
  have hzw6 := hB.size
  replace d0 := keep hk d0
  replace d1 := keep hk d1
  have ld0 := lt_of_cell d0
  clear hk hb
  go_wp2_with fail
  refine (sort_any _ _).mono ?_
  rintro e w7 ⟨rfl, hb⟩
  replace HC := Lib.hid (HC.out.below hb)
  have hk : Below w6.heap.size w6 w7 := by (repeat (first | assumption | exact Below.refl _ _ | refine Below.alloc ?_ (by (try simp) <;> omega) _ | refine below_drewN ?_ _ | refine Below.drew ?_ | refine Below.setCell ?_ (by (try simp) <;> omega) _ | refine Below.trans ?_ (Below.mono (by assumption) (by (try simp) <;> omega))))
  replace hB := hB.trans (hk.mono hB.size)
  have hzw7 := hB.size
  replace d0 := keep hk d0
  replace d1 := keep hk d1
  have ld0 := lt_of_cell d0
  clear hk hb
  go_wp2_with fail
  refine (bags_cells _).mono ?_
  rintro e w8 ⟨b, rfl, hl, -, -, -, -, -, -, hb⟩
  have H2 := Lib.hid (Rd.take hl 2 (by decide))
  replace HC := Lib.hid (HC.out.below hb)
  clear hl
  have hk : Below w7.heap.size w7 w8 := by (repeat (first | assumption | exact Below.refl _ _ | refine Below.alloc ?_ (by (try simp) <;> omega) _ | refine below_drewN ?_ _ | refine Below.drew ?_ | refine Below.setCell ?_ (by (try simp) <;> omega) _ | refine Below.trans ?_ (Below.mono (by assumption) (by (try simp) <;> omega))))
  replace hB := hB.trans (hk.mono hB.size)
  have hzw8 := hB.size
  replace d0 := keep hk d0
  replace d1 := keep hk d1
  have ld0 := lt_of_cell d0
  clear hk hb
  go_wp2_with fail
  refine (judge_ok 1 150 _ (exBags.take 2) _ H2.out beg5).mono ?_
  rw [ver5]
  rintro e w9 ⟨rfl, hb⟩
  replace HC := Lib.hid (HC.out.below hb)
  clear H2
  have hk : Below w8.heap.size w8 w9 := by (repeat (first | assumption | exact Below.refl _ _ | refine Below.alloc ?_ (by (try simp) <;> omega) _ | refine below_drewN ?_ _ | refine Below.drew ?_ | refine Below.setCell ?_ (by (try simp) <;> omega) _ | refine Below.trans ?_ (Below.mono (by assumption) (by (try simp) <;> omega))))
  replace hB := hB.trans (hk.mono hB.size)
  have hzw9 := hB.size
  replace d0 := keep hk d0
  replace d1 := keep hk d1
  have ld0 := lt_of_cell d0
  clear hk hb
  obtain ⟨D, hD⟩ : ∃ D, w3.heap.size = D := ⟨_, rfl⟩
  rw [hD] at d0 d1 ld0 ⊢
  clear hD
  have HB9 := Lib.hid hB
  clear hB
  go_upto_region 4 with fail
  go_cut [7, 8] (fun s7 s8 wx => s7 = .int .i64 0 ∧ s8 = .int .i64 0 ∧ Below w9.heap.size w9 wx)
  case first =>
    go_region_with (first
      | (go_at_call 36; refine (sort_any _ _).mono ?_; rintro e wA ⟨rfl, hbA⟩)
      | (go_at_call 37; refine (bags_cells _).mono ?_; first
          | (rintro e wC ⟨b2, rfl, -, -, -, -, s0, s1, s2, hbC⟩; replace p0 := keep hbC p0; replace p1 := keep hbC p1; replace p2 := keep hbC p2)
          | (rintro e wB ⟨b1, rfl, -, p0, p1, p2, -, -, -, hbB⟩))
      | (go_at_call 30; refine (judge_two wC).mono ?_; rintro e wD ⟨rfl, hbD⟩))
    all_goals
      have hA : Below w9.heap.size w9 wA := ⟨hbA.os, hbA.tape, hbA.output, hbA.size, hbA.block⟩
      have hE := belTrans (belTrans (belTrans hA hbB) hbC) hbD
      clear hA
      go_wp2_with fail
      go_meet
      exact ⟨rfl, rfl, hE⟩
  case rest =>
    obtain ⟨rfl, rfl, hb⟩ := hcut
    obtain ⟨w10, rfl⟩ : ∃ w10, w10 = wc := ⟨_, rfl⟩
    have hB := belTrans HB9.out hb
    have hzw10 := hB.size
    replace d0 := keep hb d0
    replace d1 := keep hb d1
    replace HC := Lib.hid (HC.out.below hb)
    have ld0 := lt_of_cell d0
    clear hb HB9
    go_wp2_with fail
    refine (sort_any _ _).mono ?_
    rintro e w11 ⟨rfl, hb⟩
    replace HC := Lib.hid (HC.out.below hb)
    have hk : Below w10.heap.size w10 w11 := by (repeat (first | assumption | exact Below.refl _ _ | refine Below.alloc ?_ (by (try simp) <;> omega) _ | refine below_drewN ?_ _ | refine Below.drew ?_ | refine Below.setCell ?_ (by (try simp) <;> omega) _ | refine Below.trans ?_ (Below.mono (by assumption) (by (try simp) <;> omega))))
    replace hB := hB.trans (hk.mono hB.size)
    have hzw11 := hB.size
    replace d0 := keep hk d0
    replace d1 := keep hk d1
    have ld0 := lt_of_cell d0
    clear hk hb
    go_wp2_with fail
    refine (bags_cells _).mono ?_
    rintro e w12 ⟨b2, rfl, -, -, -, -, s0, s1, s2, hb⟩
    have H2 := Lib.hid (rd_one (w := w12) (b := b2) (o := 6) (c := 1) (x := ⟨100, 110, 2⟩) (by decide) s0 s1 s2)
    replace HC := Lib.hid (HC.out.below hb)
    clear s0 s1 s2
    have hk : Below w11.heap.size w11 w12 := by (repeat (first | assumption | exact Below.refl _ _ | refine Below.alloc ?_ (by (try simp) <;> omega) _ | refine below_drewN ?_ _ | refine Below.drew ?_ | refine Below.setCell ?_ (by (try simp) <;> omega) _ | refine Below.trans ?_ (Below.mono (by assumption) (by (try simp) <;> omega))))
    replace hB := hB.trans (hk.mono hB.size)
    have hzw12 := hB.size
    replace d0 := keep hk d0
    replace d1 := keep hk d1
    have ld0 := lt_of_cell d0
    clear hk hb
    go_wp2_with fail
    refine (judge_ok 1 150 _ [⟨100, 110, 2⟩] _ H2.out beg7).mono ?_
    rw [ver7]
    rintro e w13 ⟨rfl, hb⟩
    replace HC := Lib.hid (HC.out.below hb)
    clear H2
    have hk : Below w12.heap.size w12 w13 := by (repeat (first | assumption | exact Below.refl _ _ | refine Below.alloc ?_ (by (try simp) <;> omega) _ | refine below_drewN ?_ _ | refine Below.drew ?_ | refine Below.setCell ?_ (by (try simp) <;> omega) _ | refine Below.trans ?_ (Below.mono (by assumption) (by (try simp) <;> omega))))
    replace hB := hB.trans (hk.mono hB.size)
    have hzw13 := hB.size
    replace d0 := keep hk d0
    replace d1 := keep hk d1
    have ld0 := lt_of_cell d0
    clear hk hb
    go_wp2_with fail
    refine (sort_any _ _).mono ?_
    rintro e w14 ⟨rfl, hb⟩
    replace HC := Lib.hid (HC.out.below hb)
    have hk : Below w13.heap.size w13 w14 := by (repeat (first | assumption | exact Below.refl _ _ | refine Below.alloc ?_ (by (try simp) <;> omega) _ | refine below_drewN ?_ _ | refine Below.drew ?_ | refine Below.setCell ?_ (by (try simp) <;> omega) _ | refine Below.trans ?_ (Below.mono (by assumption) (by (try simp) <;> omega))))
    replace hB := hB.trans (hk.mono hB.size)
    have hzw14 := hB.size
    replace d0 := keep hk d0
    replace d1 := keep hk d1
    have ld0 := lt_of_cell d0
    clear hk hb
    go_wp2_with fail
    refine (bags_cells _).mono ?_
    rintro e w15 ⟨b3, rfl, -, s0, s1, s2, -, -, -, hb⟩
    have H2 := Lib.hid (rd_one (w := w15) (b := b3) (o := 0) (c := 3) (x := ⟨500, 520, 1⟩) (by decide) s0 s1 s2)
    replace HC := Lib.hid (HC.out.below hb)
    clear s0 s1 s2
    have hk : Below w14.heap.size w14 w15 := by (repeat (first | assumption | exact Below.refl _ _ | refine Below.alloc ?_ (by (try simp) <;> omega) _ | refine below_drewN ?_ _ | refine Below.drew ?_ | refine Below.setCell ?_ (by (try simp) <;> omega) _ | refine Below.trans ?_ (Below.mono (by assumption) (by (try simp) <;> omega))))
    replace hB := hB.trans (hk.mono hB.size)
    have hzw15 := hB.size
    replace d0 := keep hk d0
    replace d1 := keep hk d1
    have ld0 := lt_of_cell d0
    clear hk hb
    go_wp2_with fail
    refine (judge_ok 1 100 _ [⟨500, 520, 1⟩] _ H2.out beg8).mono ?_
    rw [ver8]
    rintro e w16 ⟨rfl, hb⟩
    replace HC := Lib.hid (HC.out.below hb)
    clear H2
    have hk : Below w15.heap.size w15 w16 := by (repeat (first | assumption | exact Below.refl _ _ | refine Below.alloc ?_ (by (try simp) <;> omega) _ | refine below_drewN ?_ _ | refine Below.drew ?_ | refine Below.setCell ?_ (by (try simp) <;> omega) _ | refine Below.trans ?_ (Below.mono (by assumption) (by (try simp) <;> omega))))
    replace hB := hB.trans (hk.mono hB.size)
    have hzw16 := hB.size
    replace d0 := keep hk d0
    replace d1 := keep hk d1
    have ld0 := lt_of_cell d0
    clear hk hb
    go_wp2_with fail
    refine (sort_any _ _).mono ?_
    rintro e w17 ⟨rfl, hb⟩
    replace HC := Lib.hid (HC.out.below hb)
    have hk : Below w16.heap.size w16 w17 := by (repeat (first | assumption | exact Below.refl _ _ | refine Below.alloc ?_ (by (try simp) <;> omega) _ | refine below_drewN ?_ _ | refine Below.drew ?_ | refine Below.setCell ?_ (by (try simp) <;> omega) _ | refine Below.trans ?_ (Below.mono (by assumption) (by (try simp) <;> omega))))
    replace hB := hB.trans (hk.mono hB.size)
    have hzw17 := hB.size
    replace d0 := keep hk d0
    replace d1 := keep hk d1
    have ld0 := lt_of_cell d0
    clear hk hb
    go_wp2_with fail
    refine (bags_any _).mono ?_
    rintro e w18 ⟨v2, rfl, hl, hb⟩
    have H3 := Lib.hid hl
    clear hl
    replace HC := Lib.hid (HC.out.below hb)
    have hk : Below w17.heap.size w17 w18 := by (repeat (first | assumption | exact Below.refl _ _ | refine Below.alloc ?_ (by (try simp) <;> omega) _ | refine below_drewN ?_ _ | refine Below.drew ?_ | refine Below.setCell ?_ (by (try simp) <;> omega) _ | refine Below.trans ?_ (Below.mono (by assumption) (by (try simp) <;> omega))))
    replace hB := hB.trans (hk.mono hB.size)
    have hzw18 := hB.size
    replace d0 := keep hk d0
    replace d1 := keep hk d1
    have ld0 := lt_of_cell d0
    clear hk hb
    go_wp2_with fail
    refine (best_ok 1 100 _ exBags _ H3.out beg9).mono ?_
    rw [bes9]
    rintro e w21 ⟨bv, rfl, hbs, hb⟩
    have HBS := Lib.hid hbs
    replace HC := Lib.hid (HC.out.below hb)
    clear H3 hbs
    have hk : Below w18.heap.size w18 w21 := by (repeat (first | assumption | exact Below.refl _ _ | refine Below.alloc ?_ (by (try simp) <;> omega) _ | refine below_drewN ?_ _ | refine Below.drew ?_ | refine Below.setCell ?_ (by (try simp) <;> omega) _ | refine Below.trans ?_ (Below.mono (by assumption) (by (try simp) <;> omega))))
    replace hB := hB.trans (hk.mono hB.size)
    have hzw21 := hB.size
    replace d0 := keep hk d0
    replace d1 := keep hk d1
    have ld0 := lt_of_cell d0
    clear hk hb
    go_wp2_with fail
    have HW21 := Lib.hid hB
    clear hB
    go_region_held3 (fun w' => w'.cell? ⟨D, 0, none⟩ = some (.int .i64 50) ∧ w'.cell? ⟨D, 1, none⟩ = some (.int .i64 150) ∧ Below w21.heap.size w21 w')
      (first | (go_split_ands; refine ⟨?_, ?_, ?_⟩ <;> with_reducible first | (refine keep hb ?_; assumption) | exact belTrans (by assumption) hb) | (go_split_ands; refine ⟨?_, ?_, ?_⟩ <;> with_reducible first | assumption | exact belAlloc (by assumption) _ | exact Below.drew (by assumption) | exact Below.drew (Below.refl _ _) | (refine keep (below_alloc1 _ _) ?_; assumption) | go_keep))
      (first
        | (go_at_call 38; refine (span_any _ _ _).mono ?_; rintro e w3 ⟨rfl, hb⟩)
        | (go_at_call_of 27 cv; rename_i hHH _ _; have hR2 := Rd.made1 w3 _ (.int .i64 0) 3 rfl; obtain ⟨wX, hX⟩ : ∃ wX, w3.alloc (.cells #[.int .i64 0] 3) = wX := ⟨_, rfl⟩; rw [hX] at hHH hR2 ⊢; refine (refInts_same _ _ [0] _ (HC.out.below hHH.2.2) hR2).mono ?_; clear hX hR2 hb; rintro e w3 ⟨rfl, hb⟩)
        | (go_at_call_of 27 bv; rename_i hHH _ _; have hR2 := Rd.made1 w3 _ (.int .i64 0) 3 rfl; obtain ⟨wX, hX⟩ : ∃ wX, w3.alloc (.cells #[.int .i64 0] 3) = wX := ⟨_, rfl⟩; rw [hX] at hHH hR2 ⊢; refine (refInts_same _ _ [0] _ (HBS.out.below hHH.2.2) hR2).mono ?_; clear hX hR2 hb; rintro e w3 ⟨rfl, hb⟩)
        | (go_at_call 24; refine (awake_any _).mono ?_; rintro e w3 ⟨rfl, hb⟩))
    rename_i hH2
    have hfin := belTrans HW21.out hH2.2.2
    clear hH2
    go_wp2_with fail
    go_ret
    exact ⟨rfl, hfin⟩

end Go.Proofs.Ytnombgiacfeloaa
