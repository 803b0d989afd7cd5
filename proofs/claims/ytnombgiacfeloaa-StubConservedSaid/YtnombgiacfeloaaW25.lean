/- The walks of the laws' valid and the reference's asked. -/
import Derived.Test.YtnombgiacfeloaaW24
namespace Go.Proofs.Ytnombgiacfeloaa
set_option linter.unusedVariables false
set_option linter.unusedSimpArgs false
open Go.RowKit

set_option maxHeartbeats 1000000 in
theorem valid_any (err : Int) (ss : List Stp) (v : Value) (w : World) (h : Rd w 4 v (stpRows ss)) (hs : NamesFit ss) :
    Calls Try.prog 39 #[.agg #[.int .i64 err, v]] w fun e w' => e = .returned (.bool ((chk err ss).2.2 == 0)) ∧ Below w.heap.size w w' := by
  have hB := Below.refl w.heap.size w
  have HR := Lib.hid h
  have HS := Lib.hid hs
  clear h hs
  have rc := fun w' (h : Rd w' 4 v (stpRows ss)) => refCheck_any err ss v w' h HS.out
  generalize chk err ss = c at rc ⊢
  obtain ⟨c1, c2, c3⟩ := c
  dsimp only at rc ⊢
  have RC := Lib.hid rc
  clear rc
  go_enter Try.func39, Try.ntmps39
  go_wp2_with fail
  refine (RC.out _ (HR.out.below (by (repeat (first | assumption | exact Below.refl _ _ | refine Below.alloc ?_ (by (try simp) <;> omega) _ | refine below_drewN ?_ _ | refine Below.drew ?_ | refine Below.setCell ?_ (by (try simp) <;> omega) _ | refine Below.trans ?_ (Below.mono (by assumption) (by (try simp) <;> omega))))))).mono ?_
  rintro e w1 ⟨rfl, hb⟩
  have hk : Below w.heap.size w w1 := by (repeat (first | assumption | exact Below.refl _ _ | refine Below.alloc ?_ (by (try simp) <;> omega) _ | refine below_drewN ?_ _ | refine Below.drew ?_ | refine Below.setCell ?_ (by (try simp) <;> omega) _ | refine Below.trans ?_ (Below.mono (by assumption) (by (try simp) <;> omega))))
  replace hB := hB.trans (hk.mono hB.size)
  have hzw1 := hB.size
  clear hk hb
  go_wp2_with fail
  go_ret
  exact ⟨rfl, hB⟩

set_option maxHeartbeats 1000000 in
theorem asked_any (err : Int) (ss : List Stp) (rs : List Int) (v rv : Value) (w : World) (h : Rd w 4 v (stpRows ss)) (hr : Rd w 1 rv (ints rs)) (hs : NamesFit ss) :
    Calls Try.prog 66 #[.agg #[.int .i64 err, v], rv] w fun e w' => e = .returned (.int .i64 (askErr err ss rs)) ∧ Below w.heap.size w w' := by
  have hB := Below.refl w.heap.size w
  have HR := Lib.hid h
  have HQ := Lib.hid hr
  have HS := Lib.hid hs
  clear h hs hr
  have ea : askErr err ss rs = if (chk err ss).2.2 ≠ 0 then (chk err ss).2.2 else rdErr ss rs := rfl
  have ho := fun h : (chk err ss).2.2 = 0 => chk_ok h
  go_enter Try.func66, Try.ntmps66
  go_wp2_with fail
  refine (refCheck_any err ss v _ (HR.out.below (by (repeat (first | assumption | exact Below.refl _ _ | refine Below.alloc ?_ (by (try simp) <;> omega) _ | refine below_drewN ?_ _ | refine Below.drew ?_ | refine Below.setCell ?_ (by (try simp) <;> omega) _ | refine Below.trans ?_ (Below.mono (by assumption) (by (try simp) <;> omega)))))) HS.out).mono ?_
  rintro e w1 ⟨rfl, hb⟩
  have c0 : w1.cell? ⟨w.heap.size, 0, none⟩ = some (.int .i64 err) := keep hb (by simp [go_sem])
  have c1 : w1.cell? ⟨w.heap.size, 1, none⟩ = some v := keep hb (by simp [go_sem])
  have hk : Below w.heap.size w w1 := by (repeat (first | assumption | exact Below.refl _ _ | refine Below.alloc ?_ (by (try simp) <;> omega) _ | refine below_drewN ?_ _ | refine Below.drew ?_ | refine Below.setCell ?_ (by (try simp) <;> omega) _ | refine Below.trans ?_ (Below.mono (by assumption) (by (try simp) <;> omega))))
  replace hB := hB.trans (hk.mono hB.size)
  have hzw1 := hB.size
  clear hk hb
  generalize chk err ss = c at ea ho ⊢
  obtain ⟨d1, d2, d3⟩ := c
  dsimp only at ea ho ⊢
  have HE := Lib.hid ea
  clear ea
  by_cases h0 : d3 = 0
  · subst h0
    have hl := (ho rfl).len
    have rr := readings_err err ss rs v rv w1 (HR.out.below hB) (HQ.out.below hB) (by omega)
    have RR := Lib.hid rr
    clear rr ho
    go_wp2_with fail
    refine RR.out.mono ?_
    rintro e w2 ⟨rfl, hb⟩
    have hk : Below w1.heap.size w1 w2 := by (repeat (first | assumption | exact Below.refl _ _ | refine Below.alloc ?_ (by (try simp) <;> omega) _ | refine below_drewN ?_ _ | refine Below.drew ?_ | refine Below.setCell ?_ (by (try simp) <;> omega) _ | refine Below.trans ?_ (Below.mono (by assumption) (by (try simp) <;> omega))))
    replace hB := hB.trans (hk.mono hB.size)
    have hzw2 := hB.size
    clear hk hb
    have h2 : askErr err ss rs = rdErr ss rs := by rw [HE.out, if_neg (by simp)]
    have H2 := Lib.hid h2
    clear h2
    go_wp2_with fail
    go_ret
    exact ⟨by rw [H2.out] <;> rfl, hB⟩
  · have t1 : (d3 == 0) = false := by rw [beq_eq_false_iff_ne]; exact h0
    have h2 : askErr err ss rs = d3 := by rw [HE.out, if_pos h0]
    have H2 := Lib.hid h2
    clear ho h0 h2
    go_wp2_with fail
    go_ret
    exact ⟨by rw [H2.out] <;> rfl, hB⟩

end Go.Proofs.Ytnombgiacfeloaa
