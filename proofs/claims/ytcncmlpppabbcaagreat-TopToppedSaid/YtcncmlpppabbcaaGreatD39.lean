/- The values of the examples' mould. No program is in sight. The walk of mould's Fewest at the examples' mould. -/
import Derived.Test.YtcncmlpppabbcaaGreatD28
import Derived.Test.YtcncmlpppabbcaaGreatD18
import Derived.Test.YtcncmlpppabbcaaGreatD34
import Derived.OwnWalk
namespace Go.Proofs.YtcncmlpppabbcaaGreat
set_option linter.unusedVariables false
set_option linter.unusedSimpArgs false
open Go.RowKit

theorem ex_chk0 : chkM (moEx 150) = 0 := by decide +kernel
theorem ex_chk1 : chkM (moEx 149) = 0 := by decide +kernel
theorem ex_chk2 : chkM (moEx (-1)) = 7 := by decide +kernel

theorem stR_ex (d p wl : Int) : ∀ k, stR (moEx d) p wl k = stR (moEx 0) p wl k
  | 0 => rfl
  | k + 1 => by
    show nxt (moEx d) (stR (moEx d) p wl k) wl = nxt (moEx 0) (stR (moEx 0) p wl k) wl
    rw [stR_ex d p wl k]
    rfl
theorem when_ex (d p wl : Int) (i K : Nat) (n : Nat) (hK : K ≤ 601) (h : fsX (fun k => stR (moEx 0) p wl k i) 540 K = some n) : whenF (moEx d) p wl i = n := by
  unfold whenF
  rw [fs_eq]
  have e : fsX (fun k => stR (moEx d) p wl k i) (moEx d).set 601 = some n := by
    have e1 : (fun k => stR (moEx d) p wl k i) = fun k => stR (moEx 0) p wl k i := by funext k; rw [stR_ex]
    rw [e1]
    exact fsX_stays hK h
  rw [e]
theorem ex_cold (d : Int) : whenL (moEx d) (moEx d).plo (moEx d).wlo = [1, 4] := by
  have e0 : whenF (moEx d) 800 200 0 = 1 := when_ex d 800 200 0 6 1 (by decide) (by decide +kernel)
  have e1 : whenF (moEx d) 800 200 1 = 4 := when_ex d 800 200 1 6 4 (by decide) (by decide +kernel)
  show [whenF (moEx d) 800 200 0, whenF (moEx d) 800 200 1] = _
  rw [e0, e1]
theorem ex_hot (d : Int) : whenL (moEx d) (moEx d).phi (moEx d).whi = [3, 5] := by
  have e0 : whenF (moEx d) 800 300 0 = 3 := when_ex d 800 300 0 6 3 (by decide) (by decide +kernel)
  have e1 : whenF (moEx d) 800 300 1 = 5 := when_ex d 800 300 1 6 5 (by decide) (by decide +kernel)
  show [whenF (moEx d) 800 300 0, whenF (moEx d) 800 300 1] = _
  rw [e0, e1]
theorem ex_max : maxTo [3, 5] 1 ≠ 601 := by decide +kernel

theorem ex_cool : (List.range 2).map (trR (moEx 150) (fun i => ([800, 800] : List Int).getD i 0) (fun i => ([300, 300, 300, 300, 300] : List Int).getD i 0) 5) = [424, 502] := by decide +kernel
theorem ex_warm : ((List.range 2).map (stR (moEx 150) (moEx 150).plo (moEx 150).wlo 3)).zip ((List.range 2).map (stR (moEx 150) (moEx 150).phi (moEx 150).whi 3)) = [(425, 487), (575, 612)] := by decide +kernel
theorem ex_skin : cntLe 4 [3, 5] 2 = 1 ∧ cntLe 4 [1, 4] 2 = 2 := by decide +kernel
theorem ex_skinK {k : Nat} (h : 4 ≤ k) : cntLe (k : Int) [1, 4] 2 = 2 := by
  have h1 : (1 : Int) ≤ k := by omega
  have h4 : (4 : Int) ≤ k := by omega
  simp [cntLe, List.filter, h1, h4]
theorem ex_skin3 : cntLe 3 [1, 4] 2 = 1 := by decide +kernel

theorem ex_hollowP : hollowP (moEx 150) [2, 3] := by
  refine ⟨by decide, ?_, ?_, ?_⟩
  · intro i hi
    have : i = 0 ∨ i = 1 := by simp at hi; omega
    rcases this with rfl | rfl <;> (unfold planP; decide +kernel)
  · rw [ex_hot]; exact ex_max
  · rw [ex_cold]; decide +kernel
theorem ex_hollowV : hollowV (moEx 150) [2, 3] = .agg #[.int .i64 100, .int .i64 150, .int .i64 250, .int .i64 300] := by
  unfold hollowV
  rw [ex_cold, ex_hot]
  have e1 : endV (moEx 150) [1, 4] [2, 3] = (100, 300) := by decide +kernel
  have e2 : endV (moEx 150) [3, 5] [2, 3] = (150, 250) := by decide +kernel
  rw [e1, e2]

/-- The j latest toppings. -/
def exPlan (j : Nat) : List Int := (List.range j).map fun (i : Nat) => 4 - (j : Int) + i
theorem ex_end (d : Int) : (endV (moEx d) [3, 5] (exPlan 0)).1 = 400 ∧ (endV (moEx d) [3, 5] (exPlan 1)).1 = 150 ∧ (endV (moEx d) [3, 5] (exPlan 2)).1 = 150 ∧ (endV (moEx d) [3, 5] (exPlan 3)).1 = 150 ∧ (endV (moEx d) [3, 5] (exPlan 4)).1 = 150 := by
  exact ⟨by kernel_rfl, by kernel_rfl, by kernel_rfl, by kernel_rfl, by kernel_rfl⟩

end Go.Proofs.YtcncmlpppabbcaaGreat

namespace Go.Proofs.YtcncmlpppabbcaaGreat
set_option linter.unusedVariables false
set_option linter.unusedSimpArgs false
open Go.RowKit
attribute [local go_sem] Oper.semAt_some

/-- What Fewest says of the examples' mould. -/
def FewR (d : Int) (w : World) (e : Ending) (w' : World) : Prop :=
  ((d = 150 ∧ ∃ v', e = .returned (.tuple #[v', .int .i64 0]) ∧ Rd w' 1 v' (ints [3])) ∨ (d ≠ 150 ∧ e = .returned (.tuple #[.slice none 0 0, .int .i64 9]))) ∧ Below w.heap.size w w'

def exRow (j k : Nat) : List Value := ((exPlan j).take k).map (Value.int .i64)
theorem exPlan_length (j : Nat) : (exPlan j).length = j := by simp [exPlan]
theorem exRow_succ {j k : Nat} (h : k < j) : exRow j (k + 1) = exRow j k ++ [.int .i64 (4 - (j : Int) + k)] := by
  unfold exRow
  rw [List.take_succ_eq_append_getElem (by rw [exPlan_length]; exact h)]
  simp [exPlan]

theorem ex_endCall (d : Int) (hm : MoOk (moEx d)) (j : Nat) (hj : j ≤ 4) (W : World) (v pv fv lv : Value) (f1 : fv.oneCell' = true) (f2 : lv.oneCell' = true) (f3 : fv.cells = #[fv]) (f4 : lv.cells = #[lv]) (h1 : Rd W 1 v (ints [3, 5])) (h2 : Rd W 1 pv (ints (exPlan j))) :
    Calls Tryz.prog 21 #[.agg (tmCells (moEx d) fv lv), v, pv] W fun e w' => (∃ p : Int, e = .returned (.tuple #[.int .i64 (if j = 0 then 400 else 150), .int .i64 p])) ∧ Below W.heap.size W w' := by
  refine (end_any (moEx d) hm 2 rfl [3, 5] (exPlan j) rfl (by rw [exPlan_length]; omega) fv lv v pv W f1 f2 f3 f4 h1 h2).mono ?_
  rintro e w' ⟨q1, q2⟩
  have e1 : (snk (moEx d) [3, 5] 601 (endTo (moEx d) [3, 5] 2 (exPlan j) (exPlan j).length).1 (endTo (moEx d) [3, 5] 2 (exPlan j) (exPlan j).length).2.1 2).2 = if j = 0 then 400 else 150 := by
    obtain ⟨x0, x1, x2, x3, x4⟩ := ex_end d
    rcases (by omega : j = 0 ∨ j = 1 ∨ j = 2 ∨ j = 3 ∨ j = 4) with rfl | rfl | rfl | rfl | rfl
    · exact x0
    · exact x1
    · exact x2
    · exact x3
    · exact x4
  exact ⟨⟨(endTo (moEx d) [3, 5] 2 (exPlan j) (exPlan j).length).2.2, q1.trans (by rw [e1])⟩, q2⟩

set_option maxRecDepth 100000 in
set_option maxHeartbeats 4000000 in
theorem fewest_ex (d : Int) (hd : 149 ≤ d ∧ d ≤ 150) (w : World) : Calls Tryz.prog 29 #[.agg (moEx d).cells] w (FewR d w) := by
  have h : chkM (moEx d) = 0 := by
    rcases (by omega : d = 149 ∨ d = 150) with rfl | rfl
    · exact ex_chk1
    · exact ex_chk0
  have op : ∀ w, Calls Tryz.prog 15 #[.agg (moEx d).cells] w fun e w' => ∃ L1 L2, e = .returned (.tuple #[.agg (tmCells (moEx d) (.slice (some ⟨L1, 0, none⟩) 2 2) (.slice (some ⟨L2, 0, none⟩) 2 2)), .int .i64 0]) ∧
      InAt w' L1 2 (whenF (moEx d) (moEx d).plo (moEx d).wlo) ∧ InAt w' L2 2 (whenF (moEx d) (moEx d).phi (moEx d).whi) ∧ Below w.heap.size w w' := fun w => open_ok (moEx d) w h
  have hwc : (List.range 2).map (whenF (moEx d) (moEx d).plo (moEx d).wlo) = [1, 4] := ex_cold d
  have hwh : (List.range 2).map (whenF (moEx d) (moEx d).phi (moEx d).whi) = [3, 5] := ex_hot d
  have hm := chkM_ok h
  have en := fun (j : Nat) (hj : j ≤ 4) (W : World) (v pv fv lv : Value) (f1 : fv.oneCell' = true) (f2 : lv.oneCell' = true) (f3 : fv.cells = #[fv]) (f4 : lv.cells = #[lv]) (h1 : Rd W 1 v (ints [3, 5])) (h2 : Rd W 1 pv (ints (exPlan j))) => ex_endCall d hm j hj W v pv fv lv f1 f2 f3 f4 h1 h2
  unfold tmCells moEx at en
  have EN := Lib.hid en
  clear en
  obtain ⟨i0, hi0, hz0, hz1, hz2⟩ := info_parts info3a
  have HW := Lib.hid (And.intro hwc hwh)
  have HB := Lib.hid (below_alloc1 w (.cells (moEx d).cells 25))
  have HD := Lib.hid hd
  unfold Mo.cells tmCells moEx at op
  have OP := Lib.hid op
  clear h op hwc hwh hm hd
  unfold Mo.cells moEx at HB
  unfold Mo.cells moEx
  dsimp only
  go_enter Tryz.func29, Tryz.ntmps29
  go_upto_region 2 with (go_at_call 15; refine (OP.out _).mono ?_; rintro e w1 ⟨L1, L2, rfl, hI1, hI2, hb⟩)
  have hA := below_alloc1 w1 (.cells (tmCells (moEx d) (.slice (some ⟨L1, 0, none⟩) 2 2) (.slice (some ⟨L2, 0, none⟩) 2 2)) 63)
  have hT := TmAt.new w1 (moEx d) (.slice (some ⟨L1, 0, none⟩) 2 2) (.slice (some ⟨L2, 0, none⟩) 2 2)
  have hB2 := belT (belT HB.out hb) hA
  have hJ1 := hI1.same (hA.block L1 hI1.lt)
  have hJ2 := hI2.same (hA.block L2 hI2.lt)
  change Code.wp _ _ _ _ (w1.alloc (.cells (tmCells (moEx d) (.slice (some ⟨L1, 0, none⟩) 2 2) (.slice (some ⟨L2, 0, none⟩) 2 2)) 63))
  generalize w1.heap.size = T at *
  generalize (w1.alloc (.cells (tmCells (moEx d) (.slice (some ⟨L1, 0, none⟩) 2 2) (.slice (some ⟨L2, 0, none⟩) 2 2)) 63)) = W2 at *
  have hR1 : Rd W2 1 (.slice (some ⟨L1, 0, none⟩) 2 2) (ints [1, 4]) := by
    rw [← HW.out.1]
    exact hJ1.rd (by omega)
  have hR2 : Rd W2 1 (.slice (some ⟨L2, 0, none⟩) 2 2) (ints [3, 5]) := by
    rw [← HW.out.2]
    exact hJ2.rd (by omega)
  have c13 : W2.cell? ⟨T, 13, none⟩ = some (.slice (some ⟨L2, 0, none⟩) 2 2) := hT.cell 13
  have HMX := Lib.hid (show Calls Tryz.prog 17 #[.slice (some ⟨L2, 0, none⟩) 2 2] W2 fun e w' => e = .returned (.int .i64 5) ∧ W2 = w' from max_any _ [3, 5] W2 hR2 (by decide))
  have HB2 := Lib.hid hB2
  have HR := Lib.hid (And.intro hR1 hR2)
  have HT := Lib.hid hT
  clear hb hI1 hI2 hA HB OP hJ1 hJ2 hT hR1 hR2 hB2 HW
  go_upto_region 6 with ((with_reducible go_at_call 17); refine HMX.out.mono ?_; rintro e w' ⟨rfl, rfl⟩)
  clear HMX c13
  go_wp2_with fail
  go_loopw [5] (fun x wr => ∃ k : Nat, 3 ≤ k ∧ k ≤ 600 ∧ x = .int .i64 k ∧ Hid (Below W2.heap.size W2 wr)) (fun x _ => (intOf x).toNat)
  case atStart => exact ⟨600, by omega, Nat.le_refl _, rfl, Lib.hid (Below.refl _ _)⟩
  case round =>
    obtain ⟨k, hk3, hk6, rfl, hB⟩ := hrel
    have hT := HT.out.below hB.out
    have c12 : wr.cell? ⟨T, 12, none⟩ = some (.slice (some ⟨L1, 0, none⟩) 2 2) := hT.cell 12
    have c8 : wr.cell? ⟨T, 8, none⟩ = some (.int .i64 1) := hT.cell 8
    have HR1 := Lib.hid (HR.out.1.below hB.out)
    have d0 : decide ((0 : Int) ≤ (k : Int)) = true := by simp
    clear hT
    by_cases h4 : 4 ≤ k
    · have SK := Lib.hid (fun q => show Calls Tryz.prog 20 #[.slice (some ⟨L1, 0, none⟩) 2 2, .int .i64 (k : Int)] (wr.drewN q) fun e w' => e = .returned (.int .i64 2) ∧ w' = wr.drewN q by
        have h1 := skin_any (k : Int) _ [1, 4] (wr.drewN q) (HR1.out.below (below_drewN (Below.refl _ _) q))
        rw [show [(1 : Int), 4].length = 2 from rfl, ex_skinK h4] at h1
        exact h1.mono fun e w' x => ⟨x.1, x.2.symm⟩)
      go_upto_region 7 with fail
      go_quiet ((go_at_call 20; exact Calls.quiet_of_same (SK.out _)))
      have HBQ := Lib.hid (below_drewN hB.out nq)
      clear hB c12 c8 SK HR1
      go_wp2_with fail
      go_roundw
      case rel => exact ⟨k - 1, by omega, by omega, by congr 1; omega, HBQ⟩
      case measure => simp [intOf]; omega
    · have hk : (k : Int) = 3 := by omega
      have SK := Lib.hid (fun q => show Calls Tryz.prog 20 #[.slice (some ⟨L1, 0, none⟩) 2 2, .int .i64 3] (wr.drewN q) fun e w' => e = .returned (.int .i64 1) ∧ w' = wr.drewN q by
        have h1 := skin_any 3 _ [1, 4] (wr.drewN q) (HR1.out.below (below_drewN (Below.refl _ _) q))
        rw [show [(1 : Int), 4].length = 2 from rfl, ex_skin3] at h1
        exact h1.mono fun e w' x => ⟨x.1, x.2.symm⟩)
      rw [hk]
      clear d0 hk hk3 hk6 h4
      go_upto_region 7 with fail
      go_quiet ((go_at_call 20; exact Calls.quiet_of_same (SK.out _)))
      have HBQ := Lib.hid (below_drewN hB.out nq)
      obtain ⟨wd, hwd⟩ : ∃ wd, wr.drewN nq = wd := ⟨_, rfl⟩
      rw [hwd] at HBQ ⊢
      clear hB c12 c8 SK HR1 hwd
      go_wp2_with fail
      go_loopw [39] (fun i wr => ∃ j : Nat, j ≤ 5 ∧ i = .int .i64 j ∧ Hid (2 ≤ j → d ≠ 150) ∧ Hid (Below W2.heap.size W2 wr)) (fun i _ => 6 - (intOf i).toNat)
      case atStart => exact ⟨0, by omega, rfl, Lib.hid (fun h => absurd h (by decide)), HBQ⟩
      case round =>
        clear HBQ
        obtain ⟨j, hj, rfl, HJD, HBO⟩ := hrel
        obtain ⟨wo, hwo⟩ : ∃ wo, wr = wo := ⟨_, rfl⟩
        rw [hwo] at HBO ⊢
        clear hwo
        have hj' : (j : Int) < 41 := by omega
        go_wp2_with fail
        go_loopw [2, 43] (fun v i wq => ∃ k : Nat, k ≤ j ∧ i = .int .i64 k ∧ Hid (Below wo.heap.size wo wq) ∧ Hid (wq.ownsRow wo.heap.size 3 1 v k (exRow j k))) (fun _ i _ => j - (intOf i).toNat)
        case atStart => exact ⟨0, Nat.zero_le _, rfl, Lib.hid (Below.refl _ _), Lib.hid (owns_nil _ _)⟩
        case round =>
          obtain ⟨k, hk, rfl, hB, hown⟩ := hrel
          have hTr := HT.out.below (belT HBO.out hB.out)
          by_cases hlt : k < j
          · have hlt' : (k : Int) < j := by omega
            have c10 : wr.cell? ⟨T, 10, none⟩ = some (.int .i64 1) := hTr.cell 10
            clear hTr
            have hj5 : (j : Int) ≤ 5 := by omega
            have HZ := hB.out.size
            have HXS := Lib.hid (exRow_succ hlt)
            rw [show (4 - (j : Int) + k) = 3 - ((j : Int) - 1 - k) by omega] at HXS
            go_wp2_with (at_builtin; refine wpList_append_own _ rfl _ _ 26 rfl wo.heap.size 3 i0 (.int .i64 0) 1 8 Tryz.underlying26 hi0 hz0 hz1 hz2 rfl (by decide) _ _ _ rfl (hown.out.alloc _) ⟨wr.heap.size, 0, none⟩ 1 1 [.int .i64 (3 - ((j : Int) - 1 - k))] rfl rfl ?c1 ?c2 ?c3 ?c4 ?c5 ?_)
            case c1 => exact cells_new _ _ _ _ rfl
            case c2 => simp [Value.oneCell']
            case c3 => unfold maxLen; omega
            case c4 => omega
            case c5 => simp; omega
            intro v3 w3 hown3 hg3 _
            have hBg := grown_below (B := wo.heap.size) hg3 (by simp; omega) (fun b e => (hown.out.lt _ e).1)
            have HB3 := Lib.hid (hB.out.trans ((Below.alloc (Below.refl wo.heap.size wr) HZ _).trans hBg))
            have HO3 : Hid (w3.ownsRow wo.heap.size 3 1 v3 (k + 1) (exRow j (k + 1))) := Lib.hid (by rw [HXS.out]; exact hown3)
            clear hown3 hg3 hBg hown hB c10
            go_wp2_with fail
            go_roundw
            case rel => exact ⟨k + 1, by omega, by go_num, HB3, HO3⟩
            case measure => simp [intOf]; omega
          · obtain rfl : j = k := by omega
            clear hlt
            have hR : Rd wr 1 u2 (ints (exPlan j)) := rdInts (base := wo.heap.size) (by
              have e := hown.out
              unfold exRow at e
              rw [List.take_of_length_le (by rw [exPlan_length]; exact Nat.le_refl _)] at e
              rw [exPlan_length]
              exact e)
            have HRP := Lib.hid hR
            have HBT := Lib.hid (belT HBO.out hB.out)
            clear hown hB
            have t0 : wr.cell? ⟨T, 0, none⟩ = some (.int .i64 2) := hTr.cell 0
            have t1 : wr.cell? ⟨T, 1, none⟩ = some (.int .i64 500) := hTr.cell 1
            have t2 : wr.cell? ⟨T, 2, none⟩ = some (.int .i64 800) := hTr.cell 2
            have t3 : wr.cell? ⟨T, 3, none⟩ = some (.int .i64 800) := hTr.cell 3
            have t4 : wr.cell? ⟨T, 4, none⟩ = some (.int .i64 200) := hTr.cell 4
            have t5 : wr.cell? ⟨T, 5, none⟩ = some (.int .i64 300) := hTr.cell 5
            have t6 : wr.cell? ⟨T, 6, none⟩ = some (.int .i64 540) := hTr.cell 6
            have t7 : wr.cell? ⟨T, 7, none⟩ = some (.int .i64 100) := hTr.cell 7
            have t8 : wr.cell? ⟨T, 8, none⟩ = some (.int .i64 1) := hTr.cell 8
            have t9 : wr.cell? ⟨T, 9, none⟩ = some (.int .i64 250) := hTr.cell 9
            have t10 : wr.cell? ⟨T, 10, none⟩ = some (.int .i64 1) := hTr.cell 10
            have t11 : wr.cell? ⟨T, 11, none⟩ = some (.int .i64 d) := hTr.cell 11
            have t12 : wr.cell? ⟨T, 12, none⟩ = some (.slice (some ⟨L1, 0, none⟩) 2 2) := hTr.cell 12
            have t13 : wr.cell? ⟨T, 13, none⟩ = some (.slice (some ⟨L2, 0, none⟩) 2 2) := hTr.cell 13
            clear hTr
            obtain ⟨a, c, e, -, -, hq⟩ := hR.ints
            rw [exPlan_length] at e
            rcases (by omega : j = 0 ∨ (1 ≤ j ∧ j ≤ 4) ∨ j = 5) with h0 | h14 | h5
            · have hj0 : (j : Int) = 0 := by omega
              have HE := Lib.hid (EN.out j (by omega) wr (.slice (some ⟨L2, 0, none⟩) 2 2) u2 (.slice (some ⟨L1, 0, none⟩) 2 2) (.slice (some ⟨L2, 0, none⟩) 2 2) rfl rfl rfl rfl (HR.out.2.below HBT.out) HRP.out)
              rw [if_pos h0] at HE
              have hd4 : ¬ ((400 : Int) ≤ d) := by have := HD.out; omega
              have H0 := Lib.hid h0
              rw [hj0, e]
              rw [e] at HE
              clear hR hq hj' hj h0 hj0 hk
              go_wp2_with (go_at_call 21; refine HE.out.mono ?_; rintro e' w5 ⟨⟨p, rfl⟩, hb5⟩; have c11 := keep hb5 t11)
              have HB5 := Lib.hid (belT HBT.out hb5)
              clear t0 t1 t2 t3 t4 t5 t6 t7 t8 t9 t10 t11 t12 t13 c11 hb5
              go_roundw
              case rel => exact ⟨j + 1, by have := H0.out; omega, by congr 1; have := H0.out; omega, Lib.hid (fun h => by have := H0.out; omega), HB5⟩
              case measure => have := H0.out; simp [intOf]; omega
            · have hj0 : (0 : Int) < (j : Int) := by omega
              obtain ⟨b, off, rfl, hb, hc⟩ := hq (by rw [exPlan_length]; omega)
              have g0 := hc 0 (by rw [exPlan_length]; omega)
              obtain ⟨z, hz⟩ : ∃ z, (exPlan j)[0]'(by rw [exPlan_length]; omega) = z := ⟨_, rfl⟩
              rw [hz] at g0
              have hz0 : ¬ (z < 0) := by
                have : (exPlan j)[0]'(by rw [exPlan_length]; omega) = 4 - (j : Int) + ((0 : Nat) : Int) := by simp [exPlan]
                omega
              rw [Nat.add_zero] at g0
              have HE := Lib.hid (EN.out j h14.2 wr (.slice (some ⟨L2, 0, none⟩) 2 2) u2 (.slice (some ⟨L1, 0, none⟩) 2 2) (.slice (some ⟨L2, 0, none⟩) 2 2) rfl rfl rfl rfl (HR.out.2.below HBT.out) HRP.out)
              rw [if_neg (by omega)] at HE
              have H14 := Lib.hid h14
              rw [e]
              rw [e] at HE HRP
              clear hR hq hj' hz hc hb
              by_cases hd0 : d = 150
              · have hd4 : (150 : Int) ≤ d := by omega
                have H1 := Lib.hid hd0
                clear hd0
                go_wp2_with (go_at_call 21; refine HE.out.mono ?_; rintro e' w5 ⟨⟨p, rfl⟩, hb5⟩; have c11 := keep hb5 t11)
                have HB5 := Lib.hid (belT HBT.out hb5)
                have HR5 := Lib.hid (HRP.out.below hb5)
                clear t0 t1 t2 t3 t4 t5 t6 t7 t8 t9 t10 t11 t12 t13 c11 hb5
                go_ret2
                have e1 : j = 1 := by
                  have := HJD.out
                  have := H14.out
                  have := H1.out
                  by_cases q : 2 ≤ j
                  · exact absurd H1.out (HJD.out q)
                  · omega
                refine ⟨.inl ⟨H1.out, _, rfl, ?_⟩, belT HB2.out HB5.out⟩
                have h5 := HR5.out
                have e3 : exPlan j = [3] := by rw [e1]; decide +kernel
                rw [e3] at h5
                exact h5
              · have hd4 : ¬ ((150 : Int) ≤ d) := by have := HD.out; omega
                have H1 := Lib.hid hd0
                clear hd0
                go_wp2_with (go_at_call 21; refine HE.out.mono ?_; rintro e' w5 ⟨⟨p, rfl⟩, hb5⟩; have c11 := keep hb5 t11)
                have HB5 := Lib.hid (belT HBT.out hb5)
                clear t0 t1 t2 t3 t4 t5 t6 t7 t8 t9 t10 t11 t12 t13 c11 hb5 g0
                go_roundw
                case rel => exact ⟨j + 1, by have := H14.out; omega, by go_num, Lib.hid (fun _ => H1.out), HB5⟩
                case measure => have := H14.out; simp [intOf]; omega
            · have hj0 : (0 : Int) < (j : Int) := by omega
              obtain ⟨b, off, rfl, hb, hc⟩ := hq (by rw [exPlan_length]; omega)
              have g0 := hc 0 (by rw [exPlan_length]; omega)
              obtain ⟨z, hz⟩ : ∃ z, (exPlan j)[0]'(by rw [exPlan_length]; omega) = z := ⟨_, rfl⟩
              rw [hz] at g0
              have hz0 : z < 0 := by
                have : (exPlan j)[0]'(by rw [exPlan_length]; omega) = 4 - (j : Int) + ((0 : Nat) : Int) := by simp [exPlan]
                omega
              rw [Nat.add_zero] at g0
              have H5 := Lib.hid h5
              rw [e]
              clear hR hq hj' hz hc hb t0 t1 t2 t3 t4 t5 t6 t7 t8 t9 t10 t11 t12 t13 h5
              go_wp2_with fail
              go_ret2
              exact ⟨.inr ⟨HJD.out (by have := H5.out; omega), rfl⟩, belT HB2.out HBT.out⟩

end Go.Proofs.YtcncmlpppabbcaaGreat
