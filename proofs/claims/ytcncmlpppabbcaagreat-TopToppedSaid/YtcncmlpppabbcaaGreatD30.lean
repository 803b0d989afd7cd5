/- The walk of the mould's reference's Next: the warmth of all rings a minute later. -/
import Derived.Test.YtcncmlpppabbcaaGreatD5
import Derived.Test.YtcncmlpppabbcaaGreatD25
import Derived.Test.YtcncmlpppabbcaaGreatD29
import Derived.Deep.RegionHeld3
import Derived.Deep.DeepCutAuto
namespace Go.Proofs.YtcncmlpppabbcaaGreat
set_option linter.unusedVariables false
set_option linter.unusedSimpArgs false
open Go.RowKit
attribute [local go_sem] Oper.semAt_some

theorem mixR {g b h l : Int} (hg : 1 ≤ g ∧ g ≤ 500) (hb : 0 ≤ b ∧ b ≤ 2000) (hh : 0 ≤ h ∧ h ≤ 2000) (hl : 0 ≤ l ∧ l ≤ 2000) :
    (0 ≤ g * b ∧ g * b ≤ 1000000) ∧ (0 ≤ g * h ∧ g * h ≤ 1000000) ∧ (0 ≤ (1000 - 2 * g) * l ∧ (1000 - 2 * g) * l ≤ 2000000) ∧ g * b + g * h + (1000 - 2 * g) * l = g * (b + h - 2 * l) + 1000 * l := by
  refine ⟨⟨Int.mul_nonneg (by omega) hb.1, ?_⟩, ⟨Int.mul_nonneg (by omega) hh.1, ?_⟩, ⟨Int.mul_nonneg (by omega) hl.1, ?_⟩, ?_⟩
  · have := Int.mul_le_mul hg.2 hb.2 hb.1 (by omega); omega
  · have := Int.mul_le_mul hg.2 hh.2 hh.1 (by omega); omega
  · have := Int.mul_le_mul (show 1000 - 2 * g ≤ 1000 by omega) hl.2 hl.1 (by omega); omega
  · rw [Int.mul_sub, Int.mul_add, Int.sub_mul]
    have e1 : 2 * g * l = 2 * (g * l) := Int.mul_assoc _ _ _
    have e2 : g * (2 * l) = 2 * (g * l) := by rw [← Int.mul_assoc, Int.mul_comm g 2, Int.mul_assoc]
    omega

/-- A minute later, as a list. -/
def nextL (m : Mo) (ls : List Int) (wall : Int) : List Int := (List.range ls.length).map (nxt m (fun i => ls.getD i 0) wall)

def nxRow (m : Mo) (ls : List Int) (wall : Int) (k : Nat) : List Value := ((List.range k).map (nxt m (fun i => ls.getD i 0) wall)).map (Value.int .i64)
theorem nxRow_succ (m : Mo) (ls : List Int) (wall : Int) (k : Nat) : nxRow m ls wall (k + 1) = nxRow m ls wall k ++ [.int .i64 (nxt m (fun i => ls.getD i 0) wall k)] := by simp [nxRow, List.range_succ]

set_option maxRecDepth 100000 in
set_option maxHeartbeats 4000000 in
theorem refNext_any (m : Mo) (hm : MoOk m) (ls : List Int) (hn : (ls.length : Int) = m.rings) (hw : ∀ i, i < ls.length → 0 ≤ ls.getD i 0 ∧ ls.getD i 0 ≤ 2000) (wall : Int) (hwall : 0 ≤ wall ∧ wall ≤ 2000) (v : Value) (w : World) (h : Rd w 1 v (ints ls)) :
    Calls Tryz.prog 54 #[.agg m.cells, v, .int .i64 wall] w fun e w' => ∃ v', e = .returned v' ∧ Rd w' 1 v' (ints (nextL m ls wall)) ∧ (∃ g c, v' = .slice (some ⟨g, 0, none⟩) ls.length c ∧ w.heap.size ≤ g) ∧ Below w.heap.size w w' := by
  have n1 : 1 ≤ ls.length := by have := hm.rings; omega
  have n8 : ls.length ≤ 8 := by have := hm.rings; omega
  have HN := Lib.hid hn
  have HO := Lib.hid hm
  obtain ⟨f, hf⟩ : ∃ f : Nat → Int, (fun i => ls.getD i 0) = f := ⟨_, rfl⟩
  have hfi : ∀ i, ls.getD i 0 = f i := fun i => by rw [← hf]
  have HWB : Hid (∀ i, i < ls.length → 0 ≤ f i ∧ f i ≤ 2000) := Lib.hid fun i hi => by rw [← hfi]; exact hw i hi
  obtain ⟨a, c, rfl, -, hmx, hq⟩ := h.ints
  obtain ⟨lb, off, rfl, hb, hc⟩ := hq (by omega)
  have HC := Lib.hid (fun (W : World) (hbW : Below w.heap.size w W) (j : Nat) (hj : j < ls.length) => show W.cell? ⟨lb, off + j, none⟩ = some (.int .i64 (f j)) by
    rw [hbW.cell (p := ⟨lb, _, none⟩) hb, hc j hj, ← hfi]
    simp [List.getD, hj])
  have HM := Lib.hid (MoAt.new w m 25)
  have HB := Lib.hid (below_alloc1 w (.cells m.cells 25))
  have NX : Hid (∀ i : Nat, i < ls.length → nxt m f wall i = (m.give * ((if 0 < i then f (i - 1) else wall) + (if (i : Int) < m.rings - 1 then f (i + 1) else f i) - 2 * f i) + 1000 * f i) / 1000) :=
    Lib.hid fun i hi => by unfold nxt; rw [if_pos (by omega)]
  have HR : Hid (nextL m ls wall = (List.range ls.length).map (nxt m f wall)) := Lib.hid (by unfold nextL; rw [hf])
  have HX : Hid (∀ k, nxRow m ls wall k = ((List.range k).map (nxt m f wall)).map (Value.int .i64)) := Lib.hid fun k => by unfold nxRow; rw [hf]
  have HXS : Hid (∀ k, nxRow m ls wall (k + 1) = nxRow m ls wall k ++ [.int .i64 (nxt m f wall k)]) := Lib.hid fun k => by rw [nxRow_succ, hf]
  clear hn hm hw h hq hc hf hfi
  unfold Mo.cells at HM HB
  unfold Mo.cells
  go_enter Tryz.func54, Tryz.ntmps54
  go_wp2_with fail
  generalize (w.alloc (.cells #[.int .i64 m.rings, .int .i64 m.give, .int .i64 m.plo, .int .i64 m.phi, .int .i64 m.wlo, .int .i64 m.whi, .int .i64 m.set, .int .i64 m.shrink, .int .i64 m.skin, .int .i64 m.fill, .int .i64 m.gap, .int .i64 m.deep] 25)) = W1 at *
  have hD : w.heap.size < W1.heap.size := lt_of_cell HM.out.c0
  go_loopw [7, 8] (fun x i wr => ∃ k : Nat, k ≤ ls.length ∧ i = .int .i64 k ∧ Hid (Below W1.heap.size W1 wr) ∧ Hid (wr.ownsRow W1.heap.size 3 1 x k (nxRow m ls wall k))) (fun _ i _ => ls.length - (intOf i).toNat)
  case atStart => exact ⟨0, Nat.zero_le _, rfl, Lib.hid (Below.refl _ _), Lib.hid (owns_nil _ _)⟩
  case round =>
    obtain ⟨k, hk, rfl, hB, hown⟩ := hrel
    by_cases hlt : k < ls.length
    · have hlt' : (k : Int) < ls.length := by omega
      have g0 := HC.out wr (belT HB.out hB.out) k hlt
      have wb := HWB.out k hlt
      have nx := NX.out k hlt
      obtain ⟨l, hl⟩ : ∃ l, f k = l := ⟨_, rfl⟩
      rw [hl] at g0 wb nx
      have HLL := Lib.hid hl
      clear hl
      have gv := HO.out.give
      have cg := (HM.out.below hB.out).c1
      go_upto_region 5 with fail
      go_quiet (fail)
      obtain ⟨wd, hwd⟩ : ∃ wd, wr.drewN nq = wd := ⟨_, rfl⟩
      have hkd : Below wr.heap.size wr wd := by rw [← hwd]; exact below_drewN (Below.refl _ _) _
      rw [hwd]
      have HBD := Lib.hid (belT hB.out hkd)
      have HOWN := Lib.hid (ownsBel hown.out hkd)
      replace g0 := keep hkd g0
      replace cg := keep hkd cg
      clear hwd hkd hown hB
      go_upto_if 23 with fail
      go_cut [9] (fun x wx => ∃ z : Int, x = .int .i64 z ∧ Hid (z = if 0 < k then f (k - 1) else wall) ∧ wd = wx)
      case first =>
        by_cases hP : 0 < k
        · obtain ⟨j, hj⟩ : ∃ j, k = j + 1 := ⟨k - 1, by omega⟩
          have hkj : (k : Int) - 1 = (j : Int) := by omega
          have j8 : (j : Int) < ls.length := by omega
          have cj := HC.out wd (belT HB.out HBD.out) j (by omega)
          have tP : (0 : Int) < (k : Int) := by omega
          have HP := Lib.hid (And.intro hP hj)
          clear hP hj
          go_wp2_with fail
          go_meet
          exact ⟨_, rfl, Lib.hid (by rw [if_pos HP.out.1, show k - 1 = j by have := HP.out.2; omega]), rfl⟩
        · have tP : (k : Int) ≤ 0 := by omega
          have HP := Lib.hid hP
          clear hP
          go_wp2_with fail
          go_meet
          exact ⟨_, rfl, Lib.hid (by rw [if_neg HP.out]), rfl⟩
      case rest =>
        obtain ⟨b, rfl, Hb, rfl⟩ := hcut
        go_upto_if 33 with fail
        go_cut [10] (fun x wx => ∃ z : Int, x = .int .i64 z ∧ Hid (z = if (k : Int) < m.rings - 1 then f (k + 1) else l) ∧ wd = wx)
        case first =>
          by_cases hP : (k : Int) + 1 < ls.length
          · obtain ⟨j, hj⟩ : ∃ j, j = k + 1 := ⟨k + 1, rfl⟩
            have hkj : (k : Int) + 1 = (j : Int) := by omega
            have j8 : (j : Int) < ls.length := by omega
            have cj := HC.out wd (belT HB.out HBD.out) j (by omega)
            have HP := Lib.hid (And.intro hP hj)
            clear hj
            go_wp2_with fail
            go_meet
            exact ⟨_, rfl, Lib.hid (by rw [if_pos (by have := HP.out.1; have := HN.out; omega), HP.out.2]), rfl⟩
          · have tP : (ls.length : Int) ≤ (k : Int) + 1 := by omega
            have HP := Lib.hid hP
            clear hP
            go_wp2_with fail
            go_meet
            exact ⟨_, rfl, Lib.hid (by rw [if_neg (by have := HP.out; have := HN.out; omega)]), rfl⟩
        case rest =>
          obtain ⟨h, rfl, Hh, rfl⟩ := hcut
          rw [← Hb.out, ← Hh.out] at nx
          have gb : 0 ≤ b ∧ b ≤ 2000 := by
            rw [Hb.out]
            split
            · exact HWB.out _ (by omega)
            · exact hwall
          have gh : 0 ≤ h ∧ h ≤ 2000 := by
            rw [Hh.out]
            split
            · exact HWB.out _ (by have := HN.out; omega)
            · exact wb
          obtain ⟨p1, p2, p3, p4⟩ := mixR gv gb gh wb
          have e1 : IntKind.i64.wrap (m.give * b) = m.give * b := IntWalk.i64_in _ (by omega)
          have e2 : IntKind.i64.wrap (m.give * h) = m.give * h := IntWalk.i64_in _ (by omega)
          have e3 : IntKind.i64.wrap (m.give * b + m.give * h) = m.give * b + m.give * h := IntWalk.i64_in _ (by omega)
          have e4 : IntKind.i64.wrap (2 * m.give) = 2 * m.give := IntWalk.i64_in _ (by omega)
          have e5 : IntKind.i64.wrap (1000 - 2 * m.give) = 1000 - 2 * m.give := IntWalk.i64_in _ (by omega)
          have e6 : IntKind.i64.wrap ((1000 - 2 * m.give) * l) = (1000 - 2 * m.give) * l := IntWalk.i64_in _ (by omega)
          have e7 : IntKind.i64.wrap (m.give * b + m.give * h + (1000 - 2 * m.give) * l) = m.give * b + m.give * h + (1000 - 2 * m.give) * l := IntWalk.i64_in _ (by omega)
          have e8 : IntKind.i64.wrap ((m.give * b + m.give * h + (1000 - 2 * m.give) * l).tdiv 1000) = nxt m f wall k := by
            rw [Int.tdiv_eq_ediv_of_nonneg (by omega), nx, p4]
            exact IntWalk.i64_in _ (by omega)
          obtain ⟨N, hN⟩ : ∃ N, nxt m f wall k = N := ⟨_, rfl⟩
          rw [hN] at e8
          have HNN := Lib.hid hN
          clear hN nx p1 p2 p3 p4 gb gh wb gv Hb Hh
          go_upto_region 10 with fail
          go_region_held3 (fun w' => w'.cell? ⟨w.heap.size, 1, none⟩ = some (.int .i64 m.give) ∧ w'.cell? ⟨lb, off + k, none⟩ = some (.int .i64 l) ∧ w'.ownsRow W1.heap.size 3 1 u7 k (nxRow m ls wall k) ∧ Below W1.heap.size W1 w')
            (first
              | with_reducible exact ⟨keep hbb HM.out.c1, HC5.out, ownk, hbb⟩
              | with_reducible exact ⟨keep (Below.drew (Below.refl _ _)) cg, keep (Below.drew (Below.refl _ _)) g0, ownsBel HOWN.out (Below.drew (Below.refl _ _)), HBD.out.drew⟩
              | exact ⟨keep (((Below.refl _ _).alloc (Nat.le_refl _) _).drew) cg, keep (((Below.refl _ _).alloc (Nat.le_refl _) _).drew) g0, ownsBel HOWN.out (((Below.refl _ _).alloc (Nat.le_refl _) _).drew), (HBD.out.alloc HBD.out.size _).drew⟩)
            ((refine step_apG W1 rfl (.tmp 39) (.tmp 60) rfl u7 k _ N (by rfl) (by omega) _ (by rfl) (cell_new_lit wd [.int .i64 N] 3 0) (ownsBel HOWN.out ((Below.refl _ _).alloc (Nat.le_refl _) _).drew) (HBD.out.alloc HBD.out.size _).drew ?_; intro V5 W5 own5 gr5 ownk hbb; have HC5 : Hid (W5.cell? ⟨lb, off + k, none⟩ = some (.int .i64 l)) := Lib.hid (by have q := HC.out W5 (belT HB.out hbb) k hlt; rw [HLL.out] at q; exact q)))
          have OWN5 : Hid (W5.ownsRow W1.heap.size 3 1 V5 (k + 1) (nxRow m ls wall (k + 1))) := Lib.hid (by rw [HXS.out, HNN.out]; exact own5)
          clear own5 gr5 ownk
          go_wp2_with fail
          go_roundw
          case rel => (first | exact ⟨k + 1, by omega, by go_num, Lib.hid hbb, OWN5⟩ | ((repeat apply Exists.intro); exact ⟨⟨k + 1, by omega, by go_num, Lib.hid hbb, OWN5⟩, rfl⟩))
          case measure => simp [intOf]; omega
    · obtain rfl : k = ls.length := by omega
      have hrd : Rd wr 1 u7 (ints (nextL m ls wall)) := rdInts (by
        have e : (nextL m ls wall).length = ls.length := by simp [nextL]
        rw [e, HR.out, ← HX.out]
        exact hown.out)
      have hgb : ∃ g c, u7 = .slice (some ⟨g, 0, none⟩) ls.length c ∧ w.heap.size ≤ g := by
        rcases hown.out.2 with ⟨-, h0⟩ | ⟨g, cap, cur, e, h1, -⟩
        · omega
        · exact ⟨g, cap, e, by omega⟩
      have HGB := Lib.hid hgb
      have HRD := Lib.hid hrd
      clear hrd hown hgb
      go_wp2_with fail
      go_ret
      exact ⟨u7, rfl, HRD.out, HGB.out, belT HB.out hB.out⟩

end Go.Proofs.YtcncmlpppabbcaaGreat
