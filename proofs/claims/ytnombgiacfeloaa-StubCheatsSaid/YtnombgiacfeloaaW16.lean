/- The walk of the function value in 'Cheats': is there a truth without a reading. -/
import Derived.Test.YtnombgiacfeloaaW14
namespace Go.Proofs.Ytnombgiacfeloaa
set_option linter.unusedVariables false
set_option linter.unusedSimpArgs false
open Go.RowKit

set_option maxRecDepth 100000 in
set_option maxHeartbeats 1000000 in
theorem cheats1_any (err : Int) (ss : List Stp) (rs : List Int) (v rv : Value) (B k : Nat) (w : World) (hv : Rd w 4 v (stpRows ss)) (hr : Rd w 1 rv (ints rs)) (hL : LineOk err ss) (hR : ReadOk ss rs) (hk : k < rs.length)
    (l0 : w.cell? ⟨B, 0, none⟩ = some (.int .i64 err)) (l1 : w.cell? ⟨B, 1, none⟩ = some v) (l2 : w.cell? ⟨B, 2, none⟩ = some rv) :
    Calls Try.prog 68 #[.int .i64 k, .pointer (some ⟨B, 0, none⟩)] w fun e w' => e = .returned (.bool (sound (closed err ss (rs.set k (-1))))) ∧ Below w.heap.size w w' := by
  have hB := Below.refl w.heap.size w
  have HR := Lib.hid hv
  have HQ := Lib.hid hr
  obtain ⟨a, c, rfl, -, hm, -⟩ := hv
  obtain ⟨a', c', rfl, -, hm', -⟩ := hr
  have hsl := stpRows_length ss
  have hsl' := ints_length rs
  rw [hsl] at HR hm l1
  rw [hsl'] at HQ hm' l2
  clear hsl hsl'
  have hr7 : rs.length ≤ 100 := by have := hR.len; have := hL.len; omega
  go_enter Try.func68, Try.ntmps68
  go_wp2_with fail
  refine (without_any err rs a ss.length c _ k _ HQ.out hk hr7).mono ?_
  rintro e w3 ⟨rv', rfl, hrv, hb⟩
  have HRV := Lib.hid hrv
  clear hrv
  have hk : Below w.heap.size w w3 := by (repeat (first | assumption | exact Below.refl _ _ | refine Below.alloc ?_ (by (try simp) <;> omega) _ | refine below_drewN ?_ _ | refine Below.drew ?_ | refine Below.setCell ?_ (by (try simp) <;> omega) _ | refine Below.trans ?_ (Below.mono (by assumption) (by (try simp) <;> omega))))
  replace hB := hB.trans (hk.mono hB.size)
  have hzw3 := hB.size
  clear hk hb
  go_wp2_with fail
  refine (close_any err ss (rs.set k (-1)) _ _ hL (hR.set k (-1) (.inl rfl)) _ (HR.out.below hB) HRV.out).mono ?_
  rintro e w4 ⟨rfl, hb⟩
  have hk : Below w3.heap.size w3 w4 := by (repeat (first | assumption | exact Below.refl _ _ | refine Below.alloc ?_ (by (try simp) <;> omega) _ | refine below_drewN ?_ _ | refine Below.drew ?_ | refine Below.setCell ?_ (by (try simp) <;> omega) _ | refine Below.trans ?_ (Below.mono (by assumption) (by (try simp) <;> omega))))
  replace hB := hB.trans (hk.mono hB.size)
  have hzw4 := hB.size
  clear hk hb
  obtain ⟨M, hM⟩ : ∃ M, closed err ss (rs.set k (-1)) = M := ⟨_, rfl⟩
  rw [hM]
  have HM := Lib.hid hM
  clear hM
  go_wp2_with ((with_reducible refine wpList_store_fresh (o := ⟨none, .store 116 (.tmp 4) (.tmp 11), _, _, _, _⟩) rfl (.tmp 4) (.tmp 11) rfl w4.heap.size rfl ?hz ?hx M ?hy ?_); (case hz => rfl); (case hx => rfl); (case hy => rfl))
  go_ret
  exact ⟨by rw [HM.out]; rfl, by (repeat (first | assumption | exact Below.refl _ _ | refine Below.alloc ?_ (by (try simp) <;> omega) _ | refine below_drewN ?_ _ | refine Below.drew ?_ | refine Below.setCell ?_ (by (try simp) <;> omega) _ | refine Below.trans ?_ (Below.mono (by assumption) (by (try simp) <;> omega))))⟩

end Go.Proofs.Ytnombgiacfeloaa
