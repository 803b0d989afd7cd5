/- The statement 'StubTrue', walked: a truth lies in the ranges of Weights and of Lost. -/
import Derived.Test.YtnombgiacfeloaaW26
import Derived.Test.YtnombgiacfeloaaW24
import Derived.Test.YtnombgiacfeloaaW14
import Derived.Test.YtnombgiacfeloaaW17
import Derived.Test.YtnombgiacfeloaaW19
import Derived.Deep.DeepCutAuto
import Derived.Deep.RegionHeld3
import Derived.BigQuiet
namespace Go.Proofs.Ytnombgiacfeloaa
set_option linter.unusedVariables false
set_option linter.unusedSimpArgs false
open Go.RowKit

theorem inside_at (n a b : Int) (h : a ≤ n ∧ n ≤ b) (w : World) : Calls Try.prog 41 #[.int .i64 n, .agg #[.int .i64 a, .int .i64 b]] w fun e w' => e = .returned (.bool true) ∧ Below w.heap.size w w' := by
  have e : inB a b n = true := by unfold inB; rw [decide_eq_true h.1, decide_eq_true h.2]; rfl
  have := inside_any n a b w
  rw [e] at this
  exact this

set_option maxRecDepth 100000 in
set_option maxHeartbeats 4000000 in
theorem true_law (err : Int) (v : Value) (ss : List Stp) (s0 : Int) (nv : Value) (zs : List Int) (s2 y0 y1 : Int) (w : World) (h : Rd w 4 v (stpRows ss)) (hs : NamesFit ss) (hs0 : 0 ≤ s0 ∧ s0 ≤ 4294967295) (hz : Rd w 1 nv (nums zs)) (hzb : ∀ z ∈ zs, 0 ≤ z ∧ z ≤ 65535) (hs2 : 0 ≤ s2 ∧ s2 ≤ 255) (hy : (0 ≤ y0 ∧ y0 ≤ 255) ∧ (0 ≤ y1 ∧ y1 ≤ 255)) :
    Calls Try.prog 7 #[.agg #[.int .i64 err, v], .agg #[.int .u32 s0, nv, .int .u8 s2], .agg #[.int .u8 y0, .int .u8 y1]] w fun e w' => e = .returned (.bool true) ∧ Below w.heap.size w w' := by
  have hB := Below.refl w.heap.size w
  obtain ⟨q0, q1⟩ := hy
  have HR := Lib.hid h
  have HZ := Lib.hid hz
  have HZB := Lib.hid hzb
  have HS := Lib.hid hs
  have v1 := fun w' (h : Rd w' 4 v (stpRows ss)) => valid_any err ss v w' h hs
  cases hv : ((chk err ss).2.2 == 0)
  · rw [hv] at v1
    have V1 := Lib.hid v1
    clear v1 hv h hz hzb hs
    go_enter Try.func7, Try.ntmps7
    go_wp2_with fail
    refine (V1.out _ (HR.out.below (by (repeat (first | assumption | exact Below.refl _ _ | refine Below.alloc ?_ (by (try simp) <;> omega) _ | refine below_drewN ?_ _ | refine Below.drew ?_ | refine Below.setCell ?_ (by (try simp) <;> omega) _ | refine Below.trans ?_ (Below.mono (by assumption) (by (try simp) <;> omega))))))).mono ?_
    rintro e w1 ⟨rfl, hb⟩
    have hk : Below w.heap.size w w1 := by (repeat (first | assumption | exact Below.refl _ _ | refine Below.alloc ?_ (by (try simp) <;> omega) _ | refine below_drewN ?_ _ | refine Below.drew ?_ | refine Below.setCell ?_ (by (try simp) <;> omega) _ | refine Below.trans ?_ (Below.mono (by assumption) (by (try simp) <;> omega))))
    replace hB := hB.trans (hk.mono hB.size)
    have hzw1 := hB.size
    clear hk hb
    go_wp2_with fail
    refine (awake_any _).mono ?_
    rintro e w2 ⟨rfl, hb⟩
    have hk : Below w1.heap.size w1 w2 := by (repeat (first | assumption | exact Below.refl _ _ | refine Below.alloc ?_ (by (try simp) <;> omega) _ | refine below_drewN ?_ _ | refine Below.drew ?_ | refine Below.setCell ?_ (by (try simp) <;> omega) _ | refine Below.trans ?_ (Below.mono (by assumption) (by (try simp) <;> omega))))
    replace hB := hB.trans (hk.mono hB.size)
    have hzw2 := hB.size
    clear hk hb
    go_wp2_with fail
    go_ret
    exact ⟨rfl, hB⟩
  · rw [hv] at v1
    have V1 := Lib.hid v1
    have hc0 : (chk err ss).2.2 = 0 := by simpa using hv
    have hL := chk_ok hc0
    have hl6 := hL.len
    obtain ⟨sa, sc, rfl, -, hm, hcell⟩ := h.stps
    have wk := fun w' h h' => worked_any err (.slice sa ss.length sc) ss s0 nv zs s2 w' h h' hzb hs0 hs2 hL
    have wt := worked_truth (err := err) (s0 := s0) (s2 := s2) (t := fun i => turnR zs i) hL hs0.1 (fun i => (turnR_bd hzb i).1)
    generalize (wkAt s0 ss fun i => turnR zs i) = WK at *
    generalize (rdgAt err s0 s2 ss fun i => turnR zs i) = RG at *
    have HWK := Lib.hid wk
    have WT := Lib.hid wt
    have HL := Lib.hid hL
    have HC0 := Lib.hid hc0
    clear v1 hv h hs hcell hz hzb wk wt hL hc0
    go_enter Try.func7, Try.ntmps7
    go_upto_region 1 with fail
    obtain ⟨W0, hW0⟩ : ∃ W0, ((w.alloc (.cells #[.int .i64 err, .slice sa ss.length sc] 24)).alloc (.cells #[.int .u32 s0, nv, .int .u8 s2] 62)).alloc (.cells #[.int .u8 y0, .int .u8 y1] 63) = W0 := ⟨_, rfl⟩
    have c0 : W0.cell? ⟨w.heap.size, 0, none⟩ = some (.int .i64 err) := by rw [← hW0]; simp [go_sem]
    have c1 : W0.cell? ⟨w.heap.size, 1, none⟩ = some (.slice sa ss.length sc) := by rw [← hW0]; simp [go_sem]
    have d0 : W0.cell? ⟨w.heap.size + 1, 0, none⟩ = some (.int .u32 s0) := by rw [← hW0]; simp [go_sem]
    have d1 : W0.cell? ⟨w.heap.size + 1, 1, none⟩ = some nv := by rw [← hW0]; simp [go_sem]
    have d2 : W0.cell? ⟨w.heap.size + 1, 2, none⟩ = some (.int .u8 s2) := by rw [← hW0]; simp [go_sem]
    have x0 : W0.cell? ⟨w.heap.size + 1 + 1, 0, none⟩ = some (.int .u8 y0) := by rw [← hW0]; simp [go_sem]
    have x1 : W0.cell? ⟨w.heap.size + 1 + 1, 1, none⟩ = some (.int .u8 y1) := by rw [← hW0]; simp [go_sem]
    have hB0 : Below w.heap.size w W0 := by rw [← hW0]; exact belAlloc (below_alloc2 _ _ _) _
    rw [hW0]
    clear hW0 hB
    go_wp2_with fail
    refine (V1.out _ (HR.out.below hB0)).mono ?_
    rintro e w1 ⟨rfl, hb⟩
    replace c0 := keep hb c0
    replace c1 := keep hb c1
    replace d0 := keep hb d0
    replace d1 := keep hb d1
    replace d2 := keep hb d2
    replace x0 := keep hb x0
    replace x1 := keep hb x1
    have hB := belTrans hB0 hb
    clear hb hB0 V1
    go_wp2_with fail
    refine (HWK.out _ (HR.out.below hB) (HZ.out.below hB)).mono ?_
    rintro e w2 (⟨rfl, -, hb⟩ | ⟨hpos, l, z, W1, rfl, hb1, hRl, hb2, hown⟩)
    · replace hB := belTrans hB hb
      go_wp2_with fail
      refine (awake_any _).mono ?_
      rintro e w3 ⟨rfl, hb⟩
      replace hB := belTrans hB hb
      go_wp2_with fail
      go_ret
      exact ⟨rfl, hB⟩
    · obtain ⟨hR, hT⟩ := WT.out hpos
      have hA := ask_ok HC0.out (rdErr_of_ok hR)
      have hsnd := hT.sound HL.out hR
      obtain ⟨ti, tl⟩ := truth_in HL.out hR hT
      have hb := belTrans hb1 hb2
      replace c0 := keep hb c0
      replace c1 := keep hb c1
      replace x0 := keep hb x0
      replace x1 := keep hb x1
      replace hB := belTrans hB hb
      have hRz := rdVals hown
      have hRl2 := hRl.below hb2
      have cbd := closed_bd HL.out hR
      have wbd := fun i hi => hT.bd HL.out hR i hi
      generalize hrs : valsTo RG (ss.length + 1) = rs at *
      have hlr : rs.length = ss.length + 1 := hR.len
      obtain ⟨la, lc, rfl, -, -, hlc⟩ := hRl2.ints
      obtain ⟨lb, lo, rfl, hlb, hlc⟩ := hlc (by rw [valsTo_len]; omega)
      rw [valsTo_len] at *
      have we := weights_any err ss rs (.slice sa ss.length sc) z w2 (HR.out.below hB) hRz HS.out
      obtain ⟨we1, we2⟩ := weights_at hA
      rw [hsnd, if_pos rfl] at we1 we2
      rw [we1, we2] at we
      rw [hlr] at we
      have hln := wList_len err ss rs (ss.length + 1)
      have hge := wList_get err ss rs (ss.length + 1)
      generalize wList err ss rs (ss.length + 1) = WLs at *
      have WE := Lib.hid we
      have HLN := Lib.hid hln
      have HGE := Lib.hid hge
      have hn0 : (0 : Int) < ss.length := by omega
      have e0 := Int.emod_nonneg y0 (by omega : (ss.length : Int) ≠ 0)
      have e0' := Int.emod_lt_of_pos y0 hn0
      obtain ⟨a, ha⟩ : ∃ a : Nat, y0 % (ss.length : Int) = a := ⟨(y0 % (ss.length : Int)).toNat, by omega⟩
      have hal : a < ss.length := by omega
      have e1 := Int.emod_nonneg y1 (by omega : (ss.length : Int) - a ≠ 0)
      have e1' := Int.emod_lt_of_pos y1 (by omega : (0 : Int) < (ss.length : Int) - a)
      obtain ⟨b, hbb⟩ : ∃ b : Nat, (a : Int) + 1 + y1 % ((ss.length : Int) - a) = b := ⟨((a : Int) + 1 + y1 % ((ss.length : Int) - a)).toNat, by omega⟩
      have hbl : a < b ∧ b ≤ ss.length := by omega
      have z0 : ((ss.length : Int) == 0) = false := by rw [beq_eq_false_iff_ne]; omega
      have z1 : ((ss.length : Int) - a == 0) = false := by rw [beq_eq_false_iff_ne]; omega
      have lo1 := fun w' (h : Rd w' 4 (.slice sa ss.length sc) (stpRows ss)) (h' : Rd w' 1 z (ints rs)) => lost_any err ss rs _ z a b w' h h' HS.out
      rw [(lost_at hA hbl.1 hbl.2).1, (lost_at hA hbl.1 hbl.2).2, hsnd, if_pos rfl, if_pos rfl] at lo1
      have LO := Lib.hid lo1
      have tab := tl a b (by omega) hbl.2
      have da := wbd a (by omega)
      have db := wbd b (by omega)
      have cb1 := cbd b a
      have cb2 := cbd a b
      have cl : ∀ j, j < ss.length + 1 → w2.cell? ⟨lb, lo + j, none⟩ = some (.int .i64 (WK j)) := by
        intro j hj
        have := hlc j (by rw [valsTo_len]; exact hj)
        rw [valsTo_get] at this
        exact this
      have CL := Lib.hid cl
      have TI := Lib.hid ti
      have HRz := Lib.hid hRz
      have WBD := Lib.hid wbd
      have CBD := Lib.hid cbd
      have HLR := Lib.hid hlr
      have HMA := Lib.hid hbl
      clear we hln hge lo1 cl ti tl hRl hRl2 hRz hown hlc wbd cbd hlr hpos hA hsnd hR hT hrs we1 we2 hb hb1 hb2 d0 d1 d2 e0 e0' e1 e1' WT
      go_wp2_with fail
      refine WE.out.mono ?_
      rintro e w3 ⟨sv, rfl, hRs, hb⟩
      replace c0 := keep hb c0
      replace c1 := keep hb c1
      replace x0 := keep hb x0
      replace x1 := keep hb x1
      replace hB := belTrans hB hb
      have CL3 := fun j hj => keep hb (CL.out j hj)
      replace HRz := Lib.hid (HRz.out.below hb)
      obtain ⟨ra, rc, rfl, -, -, hrc⟩ := hRs.spans
      obtain ⟨rb, ro, rfl, hrb, hrc⟩ := hrc (by have := HLN.out; omega)
      have RC := Lib.hid hrc
      have hll : WLs.length = ss.length + 1 := HLN.out
      rw [hll]
      have CLL := Lib.hid CL3
      clear hRs hrc hb CL CL3 WE hll
      go_upto_region 9 with fail
      go_wp2_with fail
      go_loopw [12] (fun i wr => ∃ k : Nat, k ≤ ss.length + 1 ∧ i = .int .i64 k ∧ Below w3.heap.size w3 wr) (fun i _ => ss.length + 1 - (intOf i).toNat)
      case atStart => exact ⟨0, Nat.zero_le _, rfl, Below.refl _ _⟩
      case round =>
        obtain ⟨k, hk, rfl, hW⟩ := hrel
        by_cases hlt : k < ss.length + 1
        · have hlt1 : (k : Int) < ((ss.length + 1 : Nat) : Int) := by omega
          have hlt2 : (k : Int) < (ss.length : Int) + 1 := by omega
          have cw := keep hW (CLL.out k hlt)
          obtain ⟨r0, r1⟩ := RC.out k (by rw [HLN.out]; exact hlt)
          rw [HGE.out k (by rw [HLN.out]; exact hlt)] at r0 r1
          dsimp only at r0 r1
          replace r0 := keep hW r0
          replace r1 := keep hW r1
          have tk := TI.out k (by omega)
          have IA := Lib.hid (inside_at _ _ _ tk)
          generalize -closed err ss rs 7 k = A1 at *
          generalize closed err ss rs k 7 = A2 at *
          generalize WK k = X at *
          clear tk
          go_upto_region 12 with fail
          go_region_held3 (fun w' => w'.cell? ⟨lb, lo + k, none⟩ = some (.int .i64 X) ∧ w'.cell? ⟨rb, ro + k * 2, none⟩ = some (.int .i64 A1) ∧ w'.cell? ⟨rb, ro + k * 2 + 1, none⟩ = some (.int .i64 A2) ∧ Below w3.heap.size w3 w')
            (first
              | (go_split_ands; refine ⟨?_, ?_, ?_, ?_⟩ <;> with_reducible first | (refine keep hb ?_; assumption) | exact belTrans (by assumption) hb)
              | (go_split_ands; refine ⟨?_, ?_, ?_, ?_⟩ <;> with_reducible first | assumption | exact belAlloc (by assumption) _ | exact Below.drew (by assumption) | exact Below.drew (Below.refl _ _) | exact Below.refl _ _ | go_keep))
            (first | (go_at_call 41; refine (IA.out _).mono ?_; rintro e w4 ⟨rfl, hb⟩))
          rename_i hH2
          have hV := hH2.2.2.2
          clear hH2 cw r0 r1 IA
          go_wp2_with fail
          go_roundw
          case rel => exact ⟨k + 1, by omega, by go_num, hV⟩
          case measure => simp [intOf]; omega
        · obtain rfl : k = ss.length + 1 := by omega
          replace c0 := keep hW c0
          replace c1 := keep hW c1
          replace x0 := keep hW x0
          replace x1 := keep hW x1
          replace hB := belTrans hB hW
          replace HRz := Lib.hid (HRz.out.below hW)
          have ca := keep hW (CLL.out a (by have := HMA.out; omega))
          have cb := keep hW (CLL.out b (by have := HMA.out; omega))
          have hal2 : (a : Int) < ((ss.length + 1 : Nat) : Int) := by omega
          have hbl2 : (b : Int) < ((ss.length + 1 : Nat) : Int) := by omega
          have hal3 : (a : Int) < (ss.length : Int) + 1 := by omega
          have hbl3 : (b : Int) < (ss.length : Int) + 1 := by omega
          have IA := Lib.hid (inside_at _ _ _ tab)
          have hws : IntKind.i64.wrap (WK a - WK b) = WK a - WK b := IntWalk.i64_in _ (by omega)
          clear hW hk hlt RC HGE CLL TI tab
          generalize WK a = XA at *
          generalize WK b = XB at *
          have b1 : -4000000000000 ≤ -closed err ss rs b a ∧ -closed err ss rs b a ≤ 4000000000000 := by omega
          generalize -closed err ss rs b a = A1 at *
          generalize closed err ss rs a b = A2 at *
          go_upto_region 15 with fail
          try rw [ha]
          go_upto_region 16 with fail
          try rw [hbb]
          clear ha hbb x0 x1 z0 z1
          go_upto_region 17 with (go_at_call 22; refine (LO.out _ (HR.out.below hB) HRz.out).mono ?_; rintro e w4 ⟨rfl, hb⟩)
          replace ca := keep hb ca
          replace cb := keep hb cb
          replace hB := belTrans hB hb
          clear hb c0 c1 LO HRz
          obtain ⟨W5, hW5⟩ : ∃ W5, w4.alloc (.cells #[.int .i64 A1, .int .i64 A2] 35) = W5 := ⟨_, rfl⟩
          have u0 : W5.cell? ⟨w4.heap.size, 0, none⟩ = some (.int .i64 A1) := by rw [← hW5]; simp [go_sem]
          have u1 : W5.cell? ⟨w4.heap.size, 1, none⟩ = some (.int .i64 A2) := by rw [← hW5]; simp [go_sem]
          have hk5 : Below w4.heap.size w4 W5 := by rw [← hW5]; exact below_alloc1 _ _
          replace ca := keep hk5 ca
          replace cb := keep hk5 cb
          replace hB := belTrans hB hk5
          rw [hW5]
          clear hW5 hk5
          go_region_held3 (fun w' => w'.cell? ⟨lb, lo + a, none⟩ = some (.int .i64 XA) ∧ w'.cell? ⟨lb, lo + b, none⟩ = some (.int .i64 XB) ∧ w'.cell? ⟨w4.heap.size, 0, none⟩ = some (.int .i64 A1) ∧ w'.cell? ⟨w4.heap.size, 1, none⟩ = some (.int .i64 A2) ∧ Below W5.heap.size W5 w')
            (first
              | (go_split_ands; refine ⟨?_, ?_, ?_, ?_, ?_⟩ <;> with_reducible first | (refine keep hb ?_; assumption) | exact belTrans (by assumption) hb)
              | (go_split_ands; refine ⟨?_, ?_, ?_, ?_, ?_⟩ <;> with_reducible first | assumption | exact belAlloc (by assumption) _ | exact Below.drew (by assumption) | exact Below.drew (Below.refl _ _) | exact Below.refl _ _ | go_keep))
            (first | (go_at_call 41; refine (IA.out _).mono ?_; rintro e w6 ⟨rfl, hb⟩) | (go_at_call 24; refine (awake_any _).mono ?_; rintro e w6 ⟨rfl, hb⟩))
          rename_i hH2
          have hfin := belTrans hB hH2.2.2.2.2
          clear hH2
          go_wp2_with fail
          go_ret
          exact ⟨rfl, hfin⟩

end Go.Proofs.Ytnombgiacfeloaa
