/- The statement 'StubMore', walked (one of two cases): a further reading, better scales: no range is wider. -/
import Derived.Test.YtnombgiacfeloaaM25
import Derived.Test.YtnombgiacfeloaaA2
import Derived.Test.YtnombgiacfeloaaW24
import Derived.Test.YtnombgiacfeloaaW17
namespace Go.Proofs.Ytnombgiacfeloaa
set_option linter.unusedVariables false
set_option linter.unusedSimpArgs false
open Go.RowKit

set_option maxRecDepth 100000 in
set_option maxHeartbeats 40000000 in
theorem more_lawb (err : Int) (v : Value) (ss : List Stp) (rv : Value) (rs : List Int) (y0 y1 y2 : Int) (w : World) (h : Rd w 4 v (stpRows ss)) (hs : NamesFit ss) (hr : Rd w 1 rv (ints rs)) (hy : (0 ≤ y0 ∧ y0 ≤ 4294967295) ∧ (0 ≤ y1 ∧ y1 ≤ 4294967295) ∧ (0 ≤ y2 ∧ y2 ≤ 4294967295)) (hcs : ¬ y2 % 100 < err) :
    Calls Try.prog 11 #[.agg #[.int .i64 err, v], rv, .agg #[.int .u32 y0, .int .u32 y1, .int .u32 y2]] w fun e w' => e = .returned (.bool true) ∧ Below w.heap.size w w' := by
  obtain ⟨q0, q1, q2⟩ := hy
  have HR := Lib.hid h
  have HQ := Lib.hid hr
  have HS := Lib.hid hs
  have we := fun w' (h : Rd w' 4 v (stpRows ss)) (h' : Rd w' 1 rv (ints rs)) => weights_any err ss rs v rv w' h h' hs
  by_cases hw0 : wErr err ss rs = 0
  · have hA : askErr err ss rs = 0 := by
      unfold wErr at hw0
      by_cases h0 : askErr err ss rs = 0
      · exact h0
      · rw [if_pos h0] at hw0
        exact hw0
    have hsnd : sound (closed err ss rs) = true := by
      rw [(weights_at hA).1] at hw0
      by_cases h0 : sound (closed err ss rs) = true
      · exact h0
      · rw [if_neg h0] at hw0
        exact absurd hw0 (by decide)
    have hc0 : (chk err ss).2.2 = 0 := by
      unfold askErr at hA
      by_cases h0 : (chk err ss).2.2 = 0
      · exact h0
      · rw [if_pos h0] at hA
        exact hA
    have hrd : rdErr ss rs = 0 := by
      unfold askErr at hA
      rw [if_neg (by omega)] at hA
      exact hA
    have hL := chk_ok hc0
    have hR := rdErr_ok hrd
    have hl6 := hL.len
    have hlr := hR.len
    have v1 := fun w' (h : Rd w' 4 v (stpRows ss)) => valid_any err ss v w' h hs
    rw [hc0] at v1
    have v2 := fun w' (h : Rd w' 4 v (stpRows ss)) (h' : Rd w' 1 rv (ints rs)) => readings_err err ss rs v rv w' h h' (by omega)
    rw [hrd] at v2
    rw [hw0, (weights_at hA).2, hsnd, if_pos rfl, hlr] at we
    have hln := wList_len err ss rs (ss.length + 1)
    have hge := wList_get err ss rs (ss.length + 1)
    generalize wList err ss rs (ss.length + 1) = SL at *
    have WE := Lib.hid we
    have V1 := Lib.hid v1
    have V2 := Lib.hid v2
    have HLN := Lib.hid hln
    have HGE := Lib.hid hge
    have HL := Lib.hid hL
    have HRD := Lib.hid hR
    have HC0 := Lib.hid hc0
    have HLR := Lib.hid hlr
    obtain ⟨sa, sc, rfl, -, hm, hcell⟩ := h.stps
    obtain ⟨gb, goff, rfl, hgb, hcell⟩ := hcell (by omega)
    obtain ⟨ra, rc, hrv, -, hm', hrcell⟩ := hr.ints
    obtain ⟨qb, qoff, rfl, hqb, hrcell⟩ := hrcell (by omega)
    rw [hlr] at hrv hm'
    subst hrv
    clear we v1 v2 hln hge hL hR hc0 hrd hA hw0 h hs hr hsnd hcell hrcell
    clear hlr
    go_enter Try.func11, Try.ntmps11
    go_upto_region 1 with fail
    obtain ⟨W0, hW0⟩ : ∃ W0, (w.alloc (.cells #[.int .i64 err, .slice (some ⟨gb, goff, none⟩) ss.length sc] 24)).alloc (.cells #[.int .u32 y0, .int .u32 y1, .int .u32 y2] 80) = W0 := ⟨_, rfl⟩
    have c0 : W0.cell? ⟨w.heap.size, 0, none⟩ = some (.int .i64 err) := by rw [← hW0]; simp [go_sem]
    have c1 : W0.cell? ⟨w.heap.size, 1, none⟩ = some (.slice (some ⟨gb, goff, none⟩) ss.length sc) := by rw [← hW0]; simp [go_sem]
    have x0 : W0.cell? ⟨w.heap.size + 1, 0, none⟩ = some (.int .u32 y0) := by rw [← hW0]; simp [go_sem]
    have x1 : W0.cell? ⟨w.heap.size + 1, 1, none⟩ = some (.int .u32 y1) := by rw [← hW0]; simp [go_sem]
    have x2 : W0.cell? ⟨w.heap.size + 1, 2, none⟩ = some (.int .u32 y2) := by rw [← hW0]; simp [go_sem]
    have hB : Below w.heap.size w W0 := by rw [← hW0]; exact below_alloc2 _ _ _
    rw [hW0]
    clear hW0
    go_wp2_with fail
    refine (WE.out W0 (HR.out.below hB) (HQ.out.below hB)).mono ?_
    rintro e w1 ⟨sv, rfl, hRs, hb⟩
    replace c0 := keep hb c0
    replace c1 := keep hb c1
    replace x0 := keep hb x0
    replace x1 := keep hb x1
    replace x2 := keep hb x2
    replace hB := belTrans hB hb
    obtain ⟨ta, tc, rfl, -, -, htc⟩ := hRs.spans
    obtain ⟨tb, toff, rfl, htb, htc⟩ := htc (by have := HLN.out; omega)
    have hll : SL.length = ss.length + 1 := HLN.out
    rw [hll]
    have TC := Lib.hid htc
    clear hb hRs htc hll WE
    go_wp2_with fail
    refine (V1.out _ (HR.out.below hB)).mono ?_
    rintro e w2 ⟨rfl, hb⟩
    replace c0 := keep hb c0
    replace c1 := keep hb c1
    replace x0 := keep hb x0
    replace x1 := keep hb x1
    replace x2 := keep hb x2
    have hW := hb
    replace hB := belTrans hB hb
    clear hb V1
    go_wp2_with fail
    refine (V2.out _ (HR.out.below hB) (HQ.out.below hB)).mono ?_
    rintro e w3 ⟨rfl, hb⟩
    replace c0 := keep hb c0
    replace c1 := keep hb c1
    replace x0 := keep hb x0
    replace x1 := keep hb x1
    replace x2 := keep hb x2
    replace hW := belTrans hW hb
    replace hB := belTrans hB hb
    clear hb V2
    go_upto_region 4 with fail
    obtain ⟨i0, hi0, hz0, hz1, hz2⟩ := info_parts info3
    obtain ⟨i1, hi1, hz01, hz11, hz21⟩ := info_parts info76
    have hil : (ints rs).length = ss.length + 1 := by rw [ints_length]; exact HLR.out
    obtain ⟨wA, rfl⟩ : ∃ wA, wA = w3 := ⟨_, rfl⟩
    go_wp2_with (at_builtin; refine wpList_append_rd rfl (.tmp 52) (.tmp 53) 25 rfl wA.heap.size 3 i0 (.int .i64 0) 1 8 Try.underlying25 hi0 hz0 hz1 hz2 rfl (by decide) _ 0 [] (by rfl) (owns_empty wA 3 1) _ (ints rs) (by rfl) ((HQ.out.below hB).below (below_alloc1 _ _)) (ints_one _) (by unfold maxLen; omega) (by omega) (by simp) ?_)
    intro V4 w4 own4 hg4
    have rd4 := Rd.of_owns (rows := ints rs) (by rw [hil]; exact own4) (fun r hr => by obtain ⟨z, -, rfl⟩ := List.mem_map.1 hr; rfl)
    have hb : Below wA.heap.size wA w4 := (below_alloc1 wA (.cells #[] 3)).trans (grown_below hg4 (by simp) (fun j e => by simp [Value.ownBlock] at e; omega))
    obtain ⟨g, cap, cur, rfl, hgb', hgc, hcap, -⟩ : ∃ g cap cur, V4 = .slice (some ⟨g, 0, none⟩) (ss.length + 1) cap ∧ wA.heap.size ≤ g ∧ w4.heap[g]? = some (.cells cur 3 (0, 0)) ∧ ss.length + 1 ≤ cap ∧ True := by
      rcases own4.2 with ⟨-, h0⟩ | ⟨g, cap, cur, e, h1, h2, h3, -⟩
      · simp at h0
      · exact ⟨g, cap, cur, e, h1, h2, h3, trivial⟩
    have fzg : ∀ o, w4.frozen? ⟨g, o, none⟩ = false := fun o => frozen_of_row hgc
    have A0 := Lib.hid c0
    have A1 := Lib.hid c1
    have A2 := Lib.hid x2
    replace c0 := keep hb c0
    replace c1 := keep hb c1
    replace x0 := keep hb x0
    replace x1 := keep hb x1
    replace x2 := keep hb x2
    have hWA := hb
    have hszA := lt_of_cell c0
    have e0 := Int.emod_nonneg y0 (by omega : (ss.length : Int) + 1 ≠ 0)
    have e0' := Int.emod_lt_of_pos y0 (by omega : (0 : Int) < (ss.length : Int) + 1)
    obtain ⟨k, hk⟩ : ∃ k : Nat, y0 % ((ss.length : Int) + 1) = k := ⟨(y0 % ((ss.length : Int) + 1)).toNat, by omega⟩
    have hkl : k < ss.length + 1 := by omega
    have kl1 : (k : Int) < ((ss.length + 1 : Nat) : Int) := by omega
    have kl2 : (k : Int) < (ss.length : Int) + 1 := by omega
    have e1 := Int.emod_nonneg y1 (by decide : (1000001 : Int) ≠ 0)
    have e1' := Int.emod_lt_of_pos y1 (by decide : (0 : Int) < 1000001)
    obtain ⟨r, hr⟩ : ∃ r : Int, y1 % 1000001 = r := ⟨_, rfl⟩
    have hrb : 0 ≤ r ∧ r ≤ 1000000 := by omega
    have hlr := HLR.out
    have hRz2 : Rd w4 1 (.slice (some ⟨g, 0, none⟩) rs.length cap) (ints rs) := by rw [hlr]; exact rd4
    have rdS := rdSetInt hRz2 (by omega : k < rs.length) r
    rw [hlr] at rdS
    have zc : w4.cell? ⟨g, k, none⟩ = some (.int .i64 (rs[k]'(by omega))) := by
      obtain ⟨a5, c5, e5, -, -, h5⟩ := hRz2.ints
      obtain ⟨b5, o5, e6, -, h6⟩ := h5 (by omega)
      simp only [Value.slice.injEq] at e5
      obtain ⟨rfl, -, -⟩ := e5
      simp only [Option.some.injEq, Addr.mk.injEq, and_true] at e6
      obtain ⟨rfl, rfl⟩ := e6
      have := h6 k (by omega)
      rw [Nat.zero_add] at this
      exact this
    have hmo1 : rs[k]'(by omega) = -1 → moreAt rs k r = rs.set k r := fun e => by unfold moreAt; rw [List.getElem?_eq_getElem (by omega), e, if_pos rfl]
    have hmo2 : ¬ rs[k]'(by omega) = -1 → moreAt rs k r = rs := fun e => by unfold moreAt; rw [List.getElem?_eq_getElem (by omega), if_neg (by simpa using e)]
    generalize rs[k]'(by omega) = X at *
    have HM1 := Lib.hid hmo1
    have HM2 := Lib.hid hmo2
    have RDS := Lib.hid rdS
    have RD4 := Lib.hid rd4
    have fzk := fzg k
    clear rd4 hRz2 own4 hg4 hgc hb e0 e0' e1 e1' hlr rdS hmo1 hmo2 hil fzg
    go_upto_if 66 with fail
    obtain ⟨w5, hw5⟩ : ∃ w5, w5 = w4 := ⟨_, rfl⟩
    have HW5 := Lib.hid hw5
    clear hw5
    go_cut [] (fun wx => Rd wx 1 (.slice (some ⟨g, 0, none⟩) (ss.length + 1) cap) (ints (moreAt rs k r)) ∧ Below wA.heap.size wA wx)
    case first =>
      by_cases hq : X = -1
      · have t1 : (X == -1) = true := by rw [beq_iff_eq]; exact hq
        have HQX := Lib.hid hq
        clear hq
        go_wp2_with fail
        try rw [hr]
        go_meet
        exact ⟨by rw [HM1.out HQX.out]; exact RDS.out, hWA.setCell hgb' _⟩
      · have t1 : (X == -1) = false := by rw [beq_eq_false_iff_ne]; exact hq
        have HQX := Lib.hid hq
        clear hq
        go_wp2_with fail
        go_meet
        exact ⟨by rw [HM2.out HQX.out]; exact RD4.out, hWA⟩
    case rest =>
      obtain ⟨rdm, hWx⟩ := hcut
      have hl6s : ss.length ≤ 10 := by omega
      replace c0 := keep hWx A0.out
      replace c1 := keep hWx A1.out
      replace x2 := keep hWx A2.out
      replace hW := belTrans hW hWx
      replace hB := belTrans hB hWx
      clear hWx A0 A1 A2 x0 x1 zc RDS RD4 HM1 HM2 HW5 hWA fzk
      obtain ⟨wz, rfl⟩ : ∃ wz, wz = wc := ⟨_, rfl⟩
      have RDM := Lib.hid rdm
      have HRz := Lib.hid (HR.out.below hB)
      have hlL := HL.out.err
      have q3 := Int.emod_nonneg y2 (by decide : (100 : Int) ≠ 0)
      have q4 := Int.emod_lt_of_pos y2 (by decide : (0 : Int) < 100)
      obtain ⟨e1, he1⟩ : ∃ e1, err - min err (y2 % 100) = e1 := ⟨_, rfl⟩
      have he1b : 0 ≤ e1 ∧ e1 ≤ err := by omega
      have HE1 := Lib.hid he1
      clear rdm he1
      have XA2 := Lib.hid x2
      go_upto_region 8 with fail
      go_cut [11] (fun s11 wx => ∃ F g2 cap2 : Nat, s11 = .pointer (some ⟨F, 0, none⟩) ∧ wx.cell? ⟨F, 0, none⟩ = some (.int .i64 e1) ∧ wx.cell? ⟨F, 1, none⟩ = some (.slice (some ⟨g2, 0, none⟩) ss.length cap2) ∧ Rd wx 4 (.slice (some ⟨g2, 0, none⟩) ss.length cap2) (stpRows ss) ∧ (∀ o, wx.frozen? ⟨g2, o, none⟩ = false) ∧ F ≠ g2 ∧ wz.heap.size ≤ g2 ∧ wz.heap.size ≤ F ∧ Below wz.heap.size wz wx)
      case first =>
        have h100 : (IntKind.i64.wrap y2).tmod 100 = y2 % 100 := by
          have u1 : IntKind.i64.wrap y2 = y2 := IntWalk.i64_in _ (by omega)
          rw [u1, Int.tmod_eq_emod_of_nonneg q2.1]
        generalize hM : y2 % 100 = M at *
        have HM := Lib.hid hM
        clear hM
        have hmn : ¬ M < err := by omega
        · obtain rfl : e1 = 0 := by have := HE1.out; omega
          go_region_held3 (fun w' => w'.cell? ⟨w.heap.size, 0, none⟩ = some (.int .i64 err) ∧ w'.cell? ⟨w.heap.size, 1, none⟩ = some (.slice (some ⟨gb, goff, none⟩) ss.length sc) ∧ w'.cell? ⟨w.heap.size + 1, 2, none⟩ = some (.int .u32 y2) ∧ Below wz.heap.size wz w')
            (first
              | exact ⟨keep hbb c0, keep hbb c1, keep hbb x2, hbb⟩
              | (refine ⟨keep (W := wz) ?_ c0, keep (W := wz) ?_ c1, keep (W := wz) ?_ x2, ?_⟩ <;> ((repeat' first | exact hbb | refine Below.setCell ?_ (by simp) _ | refine belAlloc ?_ _); done))
              | (go_split_ands; refine ⟨?_, ?_, ?_, ?_⟩ <;> with_reducible first | assumption | ((repeat' first | assumption | exact Below.refl _ _ | refine Below.drew ?_ | refine belAlloc ?_ _); done) | go_keep))
            (first
              | (refine step_apS2 i1 hi1 hz01 hz11 hz21 rfl (.tmp 84) (.tmp 86) rfl ss (by rfl) (by rfl) HRz.out hl6s (by omega) ?_; intro g2 cap2 W5 rd5 fz5 hg5 hg6 hbb hne u0 u1 uf0 uf1)
              | (refine step_apS3 i1 hi1 hz01 hz11 hz21 rfl (.tmp 84) (.tmp 86) rfl ss (by rfl) (by rfl) HRz.out hl6s (by omega) ?_; intro g2 cap2 W5 rd5 fz5 hg5 hg6 hbb hne u0 u1 uf0 uf1)
              | (go_split_ands; refine step_apS wz i1 hi1 hz01 hz11 hz21 rfl (.tmp 84) (.tmp 86) rfl _ ss (by rfl) (by rfl) HRz.out hl6s (by exact owns_empty wz 76 4) (by with_reducible assumption) (by omega) ?_; intro g2 cap2 W5 rd5 fz5 hg5 hg6 hbb hgr hc5))
          all_goals go_wp2_with fail
          all_goals go_meet
          all_goals
            first
              | exact ⟨_, g2, cap2, rfl, cell_new_lit W5 [_, _] 24 0, cell_new_lit W5 [_, _] 24 1, rd5.below (below_alloc1 _ _), fun o => keepF (below_alloc1 _ _) hg6 (fz5 o), by omega, hg5, hbb.size, belAlloc hbb _⟩
              | exact ⟨_, g2, cap2, rfl, by rw [World.cell?_setCell_other _ _ _ _ (by simp), World.cell?_setCell_same _ _ _ u0] <;> rfl, by rw [World.cell?_setCell_same _ _ _ ((World.cell?_setCell_other _ _ _ _ (by simp)).trans u1)], rdOther (rdOther rd5 hne) hne, fun o => by rw [World.frozen?_setCell, World.frozen?_setCell]; exact fz5 o, hne, hg5, by simp, Below.setCell (Below.setCell hbb (by simp) _) (by simp) _⟩
      case rest =>
        obtain ⟨F, g2, cap2, rfl, f0, f1, rdF, fz, hne, hg2, hF, hWz⟩ := hcut
        replace x2 := keep hWz x2
        obtain ⟨wy, rfl⟩ : ∃ wy, wy = wc := ⟨_, rfl⟩
        have rdF0 : Rd wy 4 (.slice (some ⟨g2, 0, none⟩) ss.length cap2) (stpRows (finTo y2 ss 0)) := by rw [finTo_zero]; exact rdF
        clear rdF
        go_wp2_with fail
        go_loopw [12] (fun i wr => ∃ k : Nat, k ≤ ss.length ∧ i = .int .i64 k ∧ wr.cell? ⟨F, 0, none⟩ = some (.int .i64 e1) ∧ wr.cell? ⟨F, 1, none⟩ = some (.slice (some ⟨g2, 0, none⟩) ss.length cap2) ∧ Rd wr 4 (.slice (some ⟨g2, 0, none⟩) ss.length cap2) (stpRows (finTo y2 ss k)) ∧ (∀ o, wr.frozen? ⟨g2, o, none⟩ = false) ∧ Below wz.heap.size wz wr) (fun i _ => ss.length - (intOf i).toNat)
        case atStart => exact ⟨0, Nat.zero_le _, rfl, f0, f1, rdF0, fz, hWz⟩
        case round =>
          clear f0 f1 rdF0 fz hWz x2 c0 c1
          obtain ⟨j, hj, rfl, f0, f1, rdF, fz, hWz⟩ := hrel
          have x2 := keep hWz XA2.out
          by_cases hlt : j < ss.length
          · have hlt' : (j : Int) < ss.length := by omega
            have hx := HL.out.stp ss[j] (List.getElem_mem _)
            have hfl := finTo_len y2 ss j
            have gE : (finTo y2 ss j)[j]'(by omega) = ss[j] := by rw [finTo_get, if_neg (by omega)]
            have hsucc := finTo_succ y2 ss j hlt
            obtain ⟨a5, c5, e5, -, -, h5⟩ := rdF.stps
            rw [hfl] at e5
            obtain ⟨b5, o5, e6, -, h6⟩ := h5 (by omega)
            simp only [Value.slice.injEq] at e5
            obtain ⟨rfl, -, -⟩ := e5
            simp only [Option.some.injEq, Addr.mk.injEq, and_true] at e6
            obtain ⟨rfl, rfl⟩ := e6
            obtain ⟨-, -, -, g4⟩ := h6 j (by omega)
            rw [gE, Nat.zero_add] at g4
            have fz4 := fz (j * 4 + 3)
            have rdN := rdSetErr (w := wr) (g := g2) (c := cap2) (ss := finTo y2 ss j) (by rw [hfl]; exact rdF) (k := j) (by omega) (ss[j].err - min ss[j].err (y2 / ((j : Int) + 2) % 100))
            have en : { (finTo y2 ss j)[j]'(by omega) with err := ss[j].err - min ss[j].err (y2 / ((j : Int) + 2) % 100) } = finS y2 j ss[j] := by rw [gE]; rfl
            rw [en, ← hsucc, hfl] at rdN
            have p1 : 0 ≤ y2 / ((j : Int) + 2) := Int.ediv_nonneg q2.1 (by omega)
            have p2 := Int.emod_nonneg (y2 / ((j : Int) + 2)) (by decide : (100 : Int) ≠ 0)
            have p3 := Int.emod_lt_of_pos (y2 / ((j : Int) + 2)) (by decide : (0 : Int) < 100)
            have zj : ¬ ((j : Int) + 2 = 0) := by omega
            have wj : IntKind.i64.wrap ((j : Int) + 2) = (j : Int) + 2 := IntWalk.i64_in _ (by omega)
            have p4 : y2 / ((j : Int) + 2) ≤ y2 := Int.ediv_le_self _ q2.1
            have hq1 : IntKind.i64.wrap ((IntKind.i64.wrap y2).tdiv ((j : Int) + 2)) = y2 / ((j : Int) + 2) := by
              have e : IntKind.i64.wrap y2 = y2 := IntWalk.i64_in _ (by omega)
              rw [e, Int.tdiv_eq_ediv_of_nonneg q2.1]
              exact IntWalk.i64_in _ (by omega)
            have hq2 : (y2 / ((j : Int) + 2)).tmod 100 = y2 / ((j : Int) + 2) % 100 := Int.tmod_eq_emod_of_nonneg p1
            generalize ss[j].err = EJ at *
            have hq3 : IntKind.i64.wrap (EJ - if y2 / ((j : Int) + 2) % 100 < EJ then y2 / ((j : Int) + 2) % 100 else EJ) = EJ - min EJ (y2 / ((j : Int) + 2) % 100) := by
              rw [IntWalk.i64_in _ (by split <;> omega)]
              split <;> omega
            generalize EJ - min EJ (y2 / ((j : Int) + 2) % 100) = DJ at *
            generalize y2 / ((j : Int) + 2) % 100 = RJ at *
            generalize y2 / ((j : Int) + 2) = QJ at *
            have HRDN := Lib.hid rdN
            have FZ := Lib.hid fz
            have HWZ := Lib.hid hWz
            clear rdN en gE hsucc hfl h5 h6 hx fz hWz rdF
            go_upto_region 12 with fail
            go_still_tail 26, (by kernel_rfl)
            change wpList _ _ _ _ _ wr.drew
            go_wp2_with fail
            refine ⟨⟨j + 1, by omega, by go_num, ?_, ?_, HRDN.out.below (Below.drew (Below.refl _ _)), ?_, (HWZ.out.setCell hg2 _).drew⟩, by simp [intOf]; omega⟩
            · exact keep (Below.drew (Below.refl _ _)) ((World.cell?_setCell_other _ _ _ _ (by intro h; simp only [Addr.mk.injEq] at h; omega)).trans f0)
            · exact keep (Below.drew (Below.refl _ _)) ((World.cell?_setCell_other _ _ _ _ (by intro h; simp only [Addr.mk.injEq] at h; omega)).trans f1)
            · intro o
              rw [show ∀ W : World, W.drew.frozen? = W.frozen? from fun _ => rfl, World.frozen?_setCell]
              exact FZ.out o
          · obtain rfl : j = ss.length := by omega
            have fin := finTo_finer HL.out q2.1
            have hc' := chk_finer HC0.out fin he1b
            have hL' := chk_ok hc'
            obtain ⟨hR', hle⟩ := more_le HL.out HRD.out fin he1b hL' (k := k) (by rw [HLR.out]; exact hkl) hrb
            have hA' := ask_ok hc' (rdErr_of_ok hR')
            have hnf : NamesFit (finTo y2 ss ss.length) := by
              intro x hx
              obtain ⟨i, hi, rfl⟩ := List.getElem_of_mem hx
              rw [(fin.at' i (by rw [← fin.len]; exact hi) hi).1]
              exact HS.out _ (List.getElem_mem _)
            have hlm : (moreAt rs k r).length = ss.length + 1 := by rw [hR'.len, fin.len]
            have wf := weights_any e1 (finTo y2 ss ss.length) (moreAt rs k r) (.slice (some ⟨g2, 0, none⟩) ss.length cap2) (.slice (some ⟨g, 0, none⟩) (ss.length + 1) cap) wr rdF (RDM.out.below hWz) hnf
            obtain ⟨wa1, wa2⟩ := weights_at hA'
            rw [wa1, wa2, hlm] at wf
            have hln' := wList_len e1 (finTo y2 ss ss.length) (moreAt rs k r) (ss.length + 1)
            have hge' := wList_get e1 (finTo y2 ss ss.length) (moreAt rs k r) (ss.length + 1)
            generalize wList e1 (finTo y2 ss ss.length) (moreAt rs k r) (ss.length + 1) = TL at *
            generalize closed e1 (finTo y2 ss ss.length) (moreAt rs k r) = CF at *
            have HLN' := Lib.hid hln'
            have HGE' := Lib.hid hge'
            have HLE := Lib.hid hle
            have hB9 := belTrans hB hWz
            have hW9 := belTrans hW hWz
            clear hln' hge' hle wa1 wa2 hlm hnf hA' hR' hL' hc' fin rdF RDM hWz hB hW fz hlt
            cases hsn : sound CF
            · rw [hsn, if_neg Bool.false_ne_true, if_neg Bool.false_ne_true] at wf
              have WF := Lib.hid wf
              clear wf hsn
              go_wp2_with fail
              refine WF.out.mono ?_
              rintro e w8 ⟨tv, rfl, hRt, hb⟩
              obtain ⟨ua, uc, rfl, -, -, -⟩ := hRt.spans
              replace hB9 := belTrans hB9 hb
              clear hRt hb
              go_wp2_with fail
              refine (awake_any _).mono ?_
              rintro e w9 ⟨rfl, hb⟩
              replace hB9 := belTrans hB9 hb
              go_wp2_with fail
              go_ret
              exact ⟨rfl, hB9⟩
            · rw [hsn, if_pos rfl, if_pos rfl] at wf
              have WF := Lib.hid wf
              clear wf hsn
              go_wp2_with fail
              refine WF.out.mono ?_
              rintro e w8 ⟨tv, rfl, hRt, hb⟩
              obtain ⟨ua, uc, rfl, -, -, huc⟩ := hRt.spans
              obtain ⟨ub, uoff, rfl, hub, huc⟩ := huc (by have := HLN'.out; omega)
              have UC := Lib.hid huc
              have hll : TL.length = ss.length + 1 := HLN'.out
              rw [hll]
              replace hB9 := belTrans hB9 hb
              replace hW9 := belTrans hW9 hb
              clear hRt hb huc hll f0 f1 WF
              go_wp2_with fail
              go_loopw [15] (fun i wr => ∃ m : Nat, m ≤ ss.length + 1 ∧ i = .int .i64 m ∧ Below w8.heap.size w8 wr) (fun i _ => ss.length + 1 - (intOf i).toNat)
              case atStart => exact ⟨0, Nat.zero_le _, rfl, Below.refl _ _⟩
              case round =>
                obtain ⟨m, hm9, rfl, hV⟩ := hrel
                by_cases hlt : m < ss.length + 1
                · have hlt1 : (m : Int) < ((ss.length + 1 : Nat) : Int) := by omega
                  have hlt2 : (m : Int) < (ss.length : Int) + 1 := by omega
                  have hd1 : decide ((ss.length : Int) + 1 ≤ (m : Int)) = false := decide_eq_false (by omega)
                  obtain ⟨t0, t1⟩ := UC.out m (by rw [HLN'.out]; exact hlt)
                  rw [HGE'.out m (by rw [HLN'.out]; exact hlt)] at t0 t1
                  obtain ⟨s0, s1⟩ := TC.out m (by rw [HLN.out]; exact hlt)
                  rw [HGE.out m (by rw [HLN.out]; exact hlt)] at s0 s1
                  dsimp only at t0 t1 s0 s1
                  replace t0 := keep hV t0
                  replace t1 := keep hV t1
                  replace s0 := keep (belTrans hW9 hV) s0
                  replace s1 := keep (belTrans hW9 hV) s1
                  have l1 := HLE.out 7 m (by omega) (by omega)
                  have l2 := HLE.out m 7 (by omega) (by omega)
                  have hd2 : decide (-CF 7 m < -closed err ss rs 7 m) = false := decide_eq_false (by omega)
                  have hd3 : decide (closed err ss rs m 7 < CF m 7) = false := decide_eq_false (by omega)
                  generalize -CF 7 m = T0 at *
                  generalize CF m 7 = T1 at *
                  generalize -closed err ss rs 7 m = S0 at *
                  generalize closed err ss rs m 7 = S1 at *
                  clear l1 l2
                  go_wp2_with fail
                  go_quiet (fail)
                  go_wp2_with fail
                  go_roundw
                  case rel => exact ⟨m + 1, by omega, by go_num, belTrans hV (below_drewN (Below.refl _ _) _)⟩
                  case measure => simp [intOf]; omega
                · obtain rfl : m = ss.length + 1 := by omega
                  replace hB9 := belTrans hB9 hV
                  clear hlt
                  go_wp2_with fail
                  refine (awake_any _).mono ?_
                  rintro e w9 ⟨rfl, hb⟩
                  replace hB9 := belTrans hB9 hb
                  go_wp2_with fail
                  go_ret
                  exact ⟨rfl, hB9⟩
  · have hwn : wAt err ss rs = [] := by unfold wAt; rw [if_neg hw0]
    rw [hwn] at we
    have t1 : (wErr err ss rs != 0) = true := by rw [bne_iff_ne]; exact hw0
    generalize wErr err ss rs = E at *
    have WE := Lib.hid we
    have hB := Below.refl w.heap.size w
    clear we hwn hw0 h hs hr
    go_enter Try.func11, Try.ntmps11
    go_wp2_with fail
    refine (WE.out _ (HR.out.below (by (repeat (first | assumption | exact Below.refl _ _ | refine Below.alloc ?_ (by (try simp) <;> omega) _ | refine below_drewN ?_ _ | refine Below.drew ?_ | refine Below.setCell ?_ (by (try simp) <;> omega) _ | refine Below.trans ?_ (Below.mono (by assumption) (by (try simp) <;> omega)))))) (HQ.out.below (by (repeat (first | assumption | exact Below.refl _ _ | refine Below.alloc ?_ (by (try simp) <;> omega) _ | refine below_drewN ?_ _ | refine Below.drew ?_ | refine Below.setCell ?_ (by (try simp) <;> omega) _ | refine Below.trans ?_ (Below.mono (by assumption) (by (try simp) <;> omega))))))).mono ?_
    rintro e w1 ⟨sv, rfl, hRs, hb⟩
    obtain ⟨ta, tc, rfl, -, -, -⟩ := hRs.spans
    have hk : Below w.heap.size w w1 := by (repeat (first | assumption | exact Below.refl _ _ | refine Below.alloc ?_ (by (try simp) <;> omega) _ | refine below_drewN ?_ _ | refine Below.drew ?_ | refine Below.setCell ?_ (by (try simp) <;> omega) _ | refine Below.trans ?_ (Below.mono (by assumption) (by (try simp) <;> omega))))
    replace hB := hB.trans (hk.mono hB.size)
    have hzw1 := hB.size
    clear hk hb
    clear hRs
    go_wp2_with fail
    refine (awake_any _).mono ?_
    rintro e w2 ⟨rfl, hb⟩
    have hk : Below w1.heap.size w1 w2 := by (repeat (first | assumption | exact Below.refl _ _ | refine Below.alloc ?_ (by (try simp) <;> omega) _ | refine below_drewN ?_ _ | refine Below.drew ?_ | refine Below.setCell ?_ (by (try simp) <;> omega) _ | refine Below.trans ?_ (Below.mono (by assumption) (by (try simp) <;> omega))))
    replace hB := hB.trans (hk.mono hB.size)
    have hzw2 := hB.size
    clear hk hb
    go_wp2_with fail
    go_ret
    exact ⟨rfl, hB⟩

end Go.Proofs.Ytnombgiacfeloaa
