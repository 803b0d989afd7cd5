/- The walk of the mould's reference's End: what toppings pour, of when each ring sets. -/
import Derived.Test.YtcncmlpppabbcaaGreatD18
import Derived.Test.YtcncmlpppabbcaaGreatD25
import Derived.Test.YtcncmlpppabbcaaGreatD13
namespace Go.Proofs.YtcncmlpppabbcaaGreat
set_option linter.unusedVariables false
set_option linter.unusedSimpArgs false
open Go.RowKit
attribute [local go_sem] Oper.semAt_some

set_option maxRecDepth 100000 in
set_option maxHeartbeats 2000000 in
theorem refEnd_any (m : Mo) (hm : MoOk m) (n : Nat) (hn : (n : Int) = m.rings) (zs plan : List Int) (hz : zs.length = n) (hz0 : ∀ i, i < n → 0 ≤ zs.getD i 0) (hp : Rising plan) (h6 : ∀ i, i < plan.length → plan.getD i 0 ≤ 600) (hpl : plan.length ≤ 40)
    (v pv : Value) (w : World) (h : Rd w 1 v (ints zs)) (hP : Rd w 1 pv (ints plan)) :
    Calls Tryz.prog 12 #[.agg m.cells, v, pv] w fun e w' => (∃ hol, e = .returned (.tuple #[.int .i64 hol, .int .i64 (pour m zs plan n plan.length)])) ∧ Below w.heap.size w w' := by
  subst hz
  have n1 : 1 ≤ zs.length := by have := hm.rings; omega
  have n8 : zs.length ≤ 8 := by have := hm.rings; omega
  have HN := Lib.hid hn
  have HO := Lib.hid hm
  have HRI := Lib.hid hp
  have H6 := Lib.hid h6
  have HZ := Lib.hid hz0
  obtain ⟨a, c, rfl, -, hmx, hq⟩ := h.ints
  obtain ⟨b, off, rfl, hb, hc⟩ := hq (by omega)
  have HC := Lib.hid hc
  obtain ⟨a2, c2, rfl, -, hmx2, hq2⟩ := hP.ints
  have HQ := Lib.hid hq2
  have HSH := Lib.hid (fun i hi w => shrinks_any m hm i hi w)
  have HM := Lib.hid (MoAt.new w m 25)
  have HB := Lib.hid (below_alloc1 w (.cells m.cells 25))
  clear hn hm hp h6 hz0 h hP hq hq2 hc
  unfold Mo.cells at HSH HM HB
  unfold Mo.cells
  go_enter Tryz.func12, Tryz.ntmps12
  go_wp2_with fail
  generalize (w.alloc (.cells #[.int .i64 m.rings, .int .i64 m.give, .int .i64 m.plo, .int .i64 m.phi, .int .i64 m.wlo, .int .i64 m.whi, .int .i64 m.set, .int .i64 m.shrink, .int .i64 m.skin, .int .i64 m.fill, .int .i64 m.gap, .int .i64 m.deep] 25)) = W1 at *
  go_loopw [8, 9, 10] (fun h p i wr => ∃ N : Nat, N ≤ 601 ∧ i = .int .i64 N ∧ ∃ hh pp, h = .int .i64 hh ∧ p = .int .i64 pp ∧ Hid (EndOut m zs plan zs.length N hh pp) ∧ Hid (Below W1.heap.size W1 wr)) (fun _ _ i _ => 601 - (intOf i).toNat)
  case atStart => exact ⟨0, Nat.zero_le _, rfl, 0, 0, rfl, rfl, Lib.hid (EndOut.start HZ.out HRI.out), Lib.hid (Below.refl _ _)⟩
  case round =>
    obtain ⟨N, hN, rfl, hh, pp, rfl, rfl, hE, hB⟩ := hrel
    by_cases hlt : N ≤ 600
    · have hlt' : (N : Int) ≤ 600 := by omega
      go_wp2_with fail
      go_loopw [8, 11] (fun h i wr2 => ∃ k : Nat, k ≤ zs.length ∧ i = .int .i64 k ∧ ∃ hh, h = .int .i64 hh ∧ Hid (EndMid m zs plan zs.length N k hh pp) ∧ Hid (Below W1.heap.size W1 wr2)) (fun _ i _ => zs.length - (intOf i).toNat)
      case atStart => exact ⟨0, Nat.zero_le _, rfl, hh, rfl, Lib.hid hE.out.mid, hB⟩
      case round =>
        obtain ⟨k, hk, rfl, h2, rfl, hM, hB2⟩ := hrel
        by_cases hk2 : k < zs.length
        · have hk3 : (k : Int) < zs.length := by omega
          have g1 := HC.out k hk2
          rw [← (belT HB.out hB2.out).cell (p := ⟨b, _, none⟩) hb] at g1
          have ez : zs.getD k 0 = zs[k] := by simp [List.getD, hk2]
          rw [← ez] at g1
          clear ez
          obtain ⟨z, hz⟩ : ∃ z, zs.getD k 0 = z := ⟨_, rfl⟩
          rw [hz] at g1
          by_cases hq : z = (N : Int)
          · subst hq
            have hM2 := hM.out.hit hz
            have b1 := hM.out.bd HO.out HN.out HRI.out hk
            have b2 := hM2.bd HO.out HN.out HRI.out (by omega)
            have e1 : wrap64 (h2 + m.shrink * (2 * (m.rings - k) - 1)) = h2 + m.shrink * (2 * (m.rings - k) - 1) := by simp only [wrap64]; omega
            have HM2 := Lib.hid hM2
            clear hM2 hM b2 hz
            obtain ⟨c0, c1, c2', c3, c4, c5, c6, c7, c8, c9, c10, c11⟩ := HM.out.below hB2.out
            go_wp2_with (go_at_call 53; refine (HSH.out k (by omega) _).mono ?_; rintro e w3 ⟨rfl, hb3⟩)
            go_roundw
            case rel => exact ⟨k + 1, by omega, by go_num, _, rfl, by rw [e1]; exact HM2, Lib.hid (belT hB2.out hb3)⟩
            case measure => simp [intOf]; omega
          · have t1 : (z == (N : Int)) = false := by rw [beq_eq_false_iff_ne]; exact hq
            have HM2 := Lib.hid (hM.out.miss (by rw [hz]; exact hq))
            clear hM hz
            go_wp2_with fail
            go_roundw
            case rel => exact ⟨k + 1, by omega, by go_num, h2, rfl, HM2, hB2⟩
            case measure => simp [intOf]; omega
        · obtain rfl : k = zs.length := by omega
          have hI := Lib.hid hM.out.into
          clear hM
          go_wp2_with fail
          go_loopw [8, 9, 12] (fun h p i wr3 => ∃ k : Nat, k ≤ plan.length ∧ i = .int .i64 k ∧ ∃ hh pp, h = .int .i64 hh ∧ p = .int .i64 pp ∧ Hid (EndIn m zs plan zs.length N k hh pp) ∧ Hid (Below W1.heap.size W1 wr3)) (fun _ _ i _ => plan.length - (intOf i).toNat)
          case atStart => exact ⟨0, Nat.zero_le _, rfl, h2, pp, rfl, rfl, hI, hB2⟩
          case round =>
            obtain ⟨j, hj, rfl, h3, p3, rfl, rfl, hJ, hB3⟩ := hrel
            by_cases hj2 : j < plan.length
            · have hj3 : (j : Int) < plan.length := by omega
              obtain ⟨b', off', rfl, hb', hc'⟩ := HQ.out (by omega)
              have g1 := hc' j hj2
              rw [← (belT HB.out hB3.out).cell (p := ⟨b', _, none⟩) hb'] at g1
              have ez : plan.getD j 0 = plan[j] := by simp [List.getD, hj2]
              rw [← ez] at g1
              clear ez hc'
              obtain ⟨z, hz⟩ : ∃ z, plan.getD j 0 = z := ⟨_, rfl⟩
              rw [hz] at g1
              by_cases hq : z = (N : Int)
              · subst hq
                have hJ2 := hJ.out.hit HRI.out hj2 hz
                have b1 := hJ.out.bd HO.out HN.out HRI.out
                have b2 := hJ2.bd HO.out HN.out HRI.out
                have fl := HO.out.fill
                have HJ2 := Lib.hid hJ2
                clear hJ2 hJ b2 hz
                have c9 := (HM.out.below hB3.out).c9
                go_wp2_with fail
                go_roundw
                case rel =>
                  have em : min m.fill h3 = if h3 < m.fill then h3 else m.fill := by split <;> omega
                  refine ⟨j + 1, by omega, by go_num, _, _, ?_, ?_, HJ2, hB3⟩ <;> rw [em]
                case measure => simp [intOf]; omega
              · have t1 : (z == (N : Int)) = false := by rw [beq_eq_false_iff_ne]; exact hq
                have HJ2 := Lib.hid (hJ.out.miss (by rw [hz]; exact hq))
                clear hJ hz
                go_wp2_with fail
                go_roundw
                case rel => exact ⟨j + 1, by omega, by go_num, h3, p3, rfl, rfl, HJ2, hB3⟩
                case measure => simp [intOf]; omega
            · obtain rfl : j = plan.length := by omega
              have hO := Lib.hid hJ.out.out
              clear hJ
              go_wp2_with fail
              go_roundw
              case rel => exact ⟨N + 1, by omega, by go_num, h3, p3, rfl, rfl, by rw [show ((N + 1 : Nat) : Int) = (N : Int) + 1 by omega]; exact hO, hB3⟩
              case measure => simp [intOf]; omega
    · obtain rfl : N = 601 := by omega
      have he := Lib.hid (EndOut.last HRI.out hE.out H6.out)
      clear hE
      go_wp2_with fail
      refine bodyPost_ret (v := .tuple #[.int .i64 hh, .int .i64 pp]) (by simp [results, Tryz.results12, go_sem]) rfl ⟨⟨hh, by rw [he.out]⟩, belT HB.out hB.out⟩

end Go.Proofs.YtcncmlpppabbcaaGreat
