/- The statement 'StubCheat', walked: one reading of a truth is replaced. -/
import Derived.Test.YtnombgiacfeloaaL9
import Derived.Test.YtnombgiacfeloaaM24
import Derived.Test.YtnombgiacfeloaaW15
import Derived.Test.YtnombgiacfeloaaW18
namespace Go.Proofs.Ytnombgiacfeloaa
set_option linter.unusedVariables false
set_option linter.unusedSimpArgs false
open Go.RowKit

set_option maxRecDepth 100000 in
set_option maxHeartbeats 4000000 in
theorem cheat_law (err : Int) (v : Value) (ss : List Stp) (s0 : Int) (nv : Value) (zs : List Int) (s2 y0 y1 : Int) (w : World) (h : Rd w 4 v (stpRows ss)) (hs : NamesFit ss) (hs0 : 0 ≤ s0 ∧ s0 ≤ 4294967295) (hz : Rd w 1 nv (nums zs)) (hzb : ∀ z ∈ zs, 0 ≤ z ∧ z ≤ 65535) (hs2 : 0 ≤ s2 ∧ s2 ≤ 255) (hy : (0 ≤ y0 ∧ y0 ≤ 4294967295) ∧ (0 ≤ y1 ∧ y1 ≤ 4294967295)) :
    Calls Try.prog 10 #[.agg #[.int .i64 err, v], .agg #[.int .u32 s0, nv, .int .u8 s2], .agg #[.int .u32 y0, .int .u32 y1]] w fun e w' => e = .returned (.bool true) ∧ Below w.heap.size w w' := by
  have hB := Below.refl w.heap.size w
  obtain ⟨q0, q1⟩ := hy
  have HR := Lib.hid h
  have HZ := Lib.hid hz
  have HZB := Lib.hid hzb
  have HS := Lib.hid hs
  have v1 := fun w' (h : Rd w' 4 v (stpRows ss)) => valid_any err ss v w' h hs
  cases hv : ((chk err ss).2.2 == 0)
  · rw [hv] at v1
    have V1 := Lib.hid v1
    clear v1 hv h hz hzb hs
    go_enter Try.func10, Try.ntmps10
    go_wp2_with fail
    refine (V1.out _ (HR.out.below (by (repeat (first | assumption | exact Below.refl _ _ | refine Below.alloc ?_ (by (try simp) <;> omega) _ | refine below_drewN ?_ _ | refine Below.drew ?_ | refine Below.setCell ?_ (by (try simp) <;> omega) _ | refine Below.trans ?_ (Below.mono (by assumption) (by (try simp) <;> omega))))))).mono ?_
    rintro e w1 ⟨rfl, hb⟩
    have hk : Below w.heap.size w w1 := by (repeat (first | assumption | exact Below.refl _ _ | refine Below.alloc ?_ (by (try simp) <;> omega) _ | refine below_drewN ?_ _ | refine Below.drew ?_ | refine Below.setCell ?_ (by (try simp) <;> omega) _ | refine Below.trans ?_ (Below.mono (by assumption) (by (try simp) <;> omega))))
    replace hB := hB.trans (hk.mono hB.size)
    have hzw1 := hB.size
    clear hk hb
    go_wp2_with fail
    refine (awake_any _).mono ?_
    rintro e w2 ⟨rfl, hb⟩
    have hk : Below w1.heap.size w1 w2 := by (repeat (first | assumption | exact Below.refl _ _ | refine Below.alloc ?_ (by (try simp) <;> omega) _ | refine below_drewN ?_ _ | refine Below.drew ?_ | refine Below.setCell ?_ (by (try simp) <;> omega) _ | refine Below.trans ?_ (Below.mono (by assumption) (by (try simp) <;> omega))))
    replace hB := hB.trans (hk.mono hB.size)
    have hzw2 := hB.size
    clear hk hb
    go_wp2_with fail
    go_ret
    exact ⟨rfl, hB⟩
  · rw [hv] at v1
    have V1 := Lib.hid v1
    have hc0 : (chk err ss).2.2 = 0 := by simpa using hv
    have hL := chk_ok hc0
    have hl6 := hL.len
    obtain ⟨sa, sc, rfl, -, hm, hcell⟩ := h.stps
    have wk := fun w' h h' => worked_any err (.slice sa ss.length sc) ss s0 nv zs s2 w' h h' hzb hs0 hs2 hL
    have wt := worked_truth (err := err) (s0 := s0) (s2 := s2) (t := fun i => turnR zs i) hL hs0.1 (fun i => (turnR_bd hzb i).1)
    generalize (wkAt s0 ss fun i => turnR zs i) = WK at *
    generalize (rdgAt err s0 s2 ss fun i => turnR zs i) = RG at *
    have HWK := Lib.hid wk
    have WT := Lib.hid wt
    have HL := Lib.hid hL
    have HC0 := Lib.hid hc0
    clear v1 hv h hs hcell hz hzb wk wt hL hc0
    go_enter Try.func10, Try.ntmps10
    go_upto_region 1 with fail
    obtain ⟨W0, hW0⟩ : ∃ W0, ((w.alloc (.cells #[.int .i64 err, .slice sa ss.length sc] 24)).alloc (.cells #[.int .u32 s0, nv, .int .u8 s2] 62)).alloc (.cells #[.int .u32 y0, .int .u32 y1] 78) = W0 := ⟨_, rfl⟩
    have c0 : W0.cell? ⟨w.heap.size, 0, none⟩ = some (.int .i64 err) := by rw [← hW0]; simp [go_sem]
    have c1 : W0.cell? ⟨w.heap.size, 1, none⟩ = some (.slice sa ss.length sc) := by rw [← hW0]; simp [go_sem]
    have d0 : W0.cell? ⟨w.heap.size + 1, 0, none⟩ = some (.int .u32 s0) := by rw [← hW0]; simp [go_sem]
    have d1 : W0.cell? ⟨w.heap.size + 1, 1, none⟩ = some nv := by rw [← hW0]; simp [go_sem]
    have d2 : W0.cell? ⟨w.heap.size + 1, 2, none⟩ = some (.int .u8 s2) := by rw [← hW0]; simp [go_sem]
    have x0 : W0.cell? ⟨w.heap.size + 1 + 1, 0, none⟩ = some (.int .u32 y0) := by rw [← hW0]; simp [go_sem]
    have x1 : W0.cell? ⟨w.heap.size + 1 + 1, 1, none⟩ = some (.int .u32 y1) := by rw [← hW0]; simp [go_sem]
    have hB0 : Below w.heap.size w W0 := by rw [← hW0]; exact belAlloc (below_alloc2 _ _ _) _
    rw [hW0]
    clear hW0 hB
    go_wp2_with fail
    refine (V1.out _ (HR.out.below hB0)).mono ?_
    rintro e w1 ⟨rfl, hb⟩
    replace c0 := keep hb c0
    replace c1 := keep hb c1
    replace d0 := keep hb d0
    replace d1 := keep hb d1
    replace d2 := keep hb d2
    replace x0 := keep hb x0
    replace x1 := keep hb x1
    have hB := belTrans hB0 hb
    clear hb hB0 V1
    go_wp2_with fail
    refine (HWK.out _ (HR.out.below hB) (HZ.out.below hB)).mono ?_
    rintro e w2 (⟨rfl, -, hb⟩ | ⟨hpos, l, z, W1, rfl, hb1, hRl, hb2, hown⟩)
    · replace hB := belTrans hB hb
      go_wp2_with fail
      refine (awake_any _).mono ?_
      rintro e w3 ⟨rfl, hb⟩
      replace hB := belTrans hB hb
      go_wp2_with fail
      go_ret
      exact ⟨rfl, hB⟩
    · obtain ⟨hR, hT⟩ := WT.out hpos
      have hbb := belTrans hb1 hb2
      have hsz1 := hB.size
      have lc0 := lt_of_cell c0
      replace c0 := keep hbb c0
      replace c1 := keep hbb c1
      replace x0 := keep hbb x0
      replace x1 := keep hbb x1
      replace hB := belTrans hB hbb
      have hRz := rdVals hown
      have hRl2 := hRl.below hb2
      have wbd := fun i hi => hT.bd HL.out hR i hi
      obtain ⟨g, cap, rfl⟩ := ownsRow_succ hown
      have hgb : W1.heap.size ≤ g := (hown.lt g rfl).1
      have hg0 : w.heap.size < g := Nat.lt_of_lt_of_le (Nat.lt_of_lt_of_le lc0 hb1.size) hgb
      have hgw : w.heap.size ≤ g := Nat.le_trans (Nat.le_trans hsz1 hb1.size) hgb
      have fzg : ∀ o, w2.frozen? ⟨g, o, none⟩ = false := by
        rcases hown.2 with ⟨h0, -⟩ | ⟨g', cap', cur, e, -, hgg, -⟩
        · simp at h0
        · simp only [Value.slice.injEq, Option.some.injEq, Addr.mk.injEq, and_true] at e
          obtain ⟨rfl, -, -⟩ := e
          exact fun o => frozen_of_row hgg
      generalize hrs : valsTo RG (ss.length + 1) = rs at *
      have hlr : rs.length = ss.length + 1 := hR.len
      obtain ⟨la, lc, rfl, -, -, hlc⟩ := hRl.ints
      obtain ⟨lb, lo, rfl, hlb, hlc⟩ := hlc (by rw [valsTo_len]; omega)
      rw [valsTo_len] at *
      have e0 := Int.emod_nonneg y0 (by omega : (ss.length : Int) + 1 ≠ 0)
      have e0' := Int.emod_lt_of_pos y0 (by omega : (0 : Int) < (ss.length : Int) + 1)
      obtain ⟨k, hk⟩ : ∃ k : Nat, y0 % ((ss.length : Int) + 1) = k := ⟨(y0 % ((ss.length : Int) + 1)).toNat, by omega⟩
      have hkl : k ≤ ss.length := by omega
      have e1 := Int.emod_nonneg y1 (by decide : (1000001 : Int) ≠ 0)
      have e1' := Int.emod_lt_of_pos y1 (by decide : (0 : Int) < 1000001)
      obtain ⟨r, hr⟩ : ∃ r : Int, y1 % 1000001 = r := ⟨_, rfl⟩
      have hrb : 0 ≤ r ∧ r ≤ 1000000 := by omega
      have CF := cheat_facts HC0.out HL.out hR hT hkl hrb
      have hR' := readOk_set hR (k := k) (x := r) (.inr hrb)
      have obd := offAt_bd HL.out hR' k (by rw [List.length_set]; omega)
      have cln := cAt_len (err := err) (ss := ss) (rs := rs.set k r)
      rw [List.length_set, hlr] at cln
      have hRz2 : Rd w2 1 (.slice (some ⟨g, 0, none⟩) rs.length cap) (ints rs) := by rw [hlr]; exact hRz
      have rdS := rdSetInt hRz2 (by omega : k < rs.length) r
      rw [hlr] at rdS
      have zcell : ∃ q, w2.cell? ⟨g, k, none⟩ = some (.int .i64 q) := by
        obtain ⟨a5, c5, e5, -, -, h5⟩ := hRz2.ints
        obtain ⟨b5, o5, e6, -, h6⟩ := h5 (by omega)
        simp only [Value.slice.injEq] at e5
        obtain ⟨rfl, -, -⟩ := e5
        simp only [Option.some.injEq, Addr.mk.injEq, and_true] at e6
        obtain ⟨rfl, rfl⟩ := e6
        have := h6 k (by omega)
        rw [Nat.zero_add] at this
        exact ⟨_, this⟩
      obtain ⟨zq, zc⟩ := zcell
      have fzk := fzg k
      have cl : w2.cell? ⟨lb, lo + k, none⟩ = some (.int .i64 (WK k)) := by
        have := hlc k (by rw [valsTo_len]; omega)
        rw [valsTo_get] at this
        exact keep hb2 this
      have hlg : lb < g := Nat.lt_of_lt_of_le hlb hgb
      have wb := wbd k (by omega)
      have kl1 : (k : Int) < ((ss.length + 1 : Nat) : Int) := by omega
      have kl2 : (k : Int) < (ss.length : Int) + 1 := by omega
      obtain ⟨rs', hrs'⟩ : ∃ rs', rs.set k r = rs' := ⟨_, rfl⟩
      rw [hrs'] at CF hR' obd cln rdS
      have che := fun w' v h h' => cheats_any err ss rs' v (.slice (some ⟨g, 0, none⟩) (ss.length + 1) cap) w' h h' HS.out
      have ofe := fun w' v h h' => off_any err ss rs' v (.slice (some ⟨g, 0, none⟩) (ss.length + 1) cap) k w' h h' HS.out
      have wee := fun w' v h h' => weights_any err ss rs' v (.slice (some ⟨g, 0, none⟩) (ss.length + 1) cap) w' h h' HS.out
      obtain ⟨f1, f2, f3, f4, f5⟩ := CF
      rw [f1] at ofe
      generalize (offAt err ss rs' k).1 = O1 at *
      generalize (offAt err ss rs' k).2 = O2 at *
      generalize cAt err ss rs' = CL at *
      generalize cErr err ss rs' = CE at *
      generalize wErr err ss rs' = WEr at *
      have CHE := Lib.hid che
      have OFE := Lib.hid ofe
      have WEE := Lib.hid wee
      have F4 := Lib.hid f4
      have F5 := Lib.hid f5
      have RDS := Lib.hid rdS
      have IA := Lib.hid (inside_at _ _ _ ⟨f2, f3⟩)
      have hws : IntKind.i64.wrap (r - WK k) = r - WK k := IntWalk.i64_in _ (by omega)
      have CLN := Lib.hid cln
      clear che ofe wee f1 f2 f3 f4 f5 rdS hRz hRz2 hlc hRl hRl2 hR hT hR' obd cln hrs hrs' hown fzg wbd hpos hlr e0 e0' e1 e1' d0 d1 d2 hlb hb1 hb2 hbb WT
      generalize hwk : WK k = X at *
      clear hwk
      go_upto_region 8 with fail
      try rw [hr]
      obtain ⟨w3, hw3⟩ : ∃ w3, w2.setCell ⟨g, k, none⟩ (.int .i64 r) = w3 := ⟨_, rfl⟩
      have RD3 : Hid (Rd w3 1 (.slice (some ⟨g, 0, none⟩) (ss.length + 1) cap) (ints rs')) := by rw [← hw3]; exact RDS
      have hB3 : Below w.heap.size w w3 := by rw [← hw3]; exact hB.setCell hgw _
      replace c0 : w3.cell? ⟨w.heap.size, 0, none⟩ = some (.int .i64 err) := by rw [← hw3, World.cell?_setCell_other _ _ _ _ (by intro h; simp only [Addr.mk.injEq] at h; omega)]; exact c0
      replace c1 : w3.cell? ⟨w.heap.size, 1, none⟩ = some (.slice sa ss.length sc) := by rw [← hw3, World.cell?_setCell_other _ _ _ _ (by intro h; simp only [Addr.mk.injEq] at h; omega)]; exact c1
      replace cl : w3.cell? ⟨lb, lo + k, none⟩ = some (.int .i64 X) := by rw [← hw3, World.cell?_setCell_other _ _ _ _ (by intro h; simp only [Addr.mk.injEq] at h; omega)]; exact cl
      replace zc : w3.cell? ⟨g, k, none⟩ = some (.int .i64 r) := by rw [← hw3]; exact World.cell?_setCell_same _ _ _ zc
      try rw [hw3]
      clear hw3 RDS hB fzk x0 x1
      go_wp2_with fail
      refine (CHE.out _ _ (HR.out.below hB3) RD3.out).mono ?_
      rintro e w4 ⟨cv, rfl, hRc, hb⟩
      replace c0 := keep hb c0
      replace c1 := keep hb c1
      replace cl := keep hb cl
      replace zc := keep hb zc
      replace RD3 := Lib.hid (RD3.out.below hb)
      replace hB3 := belTrans hB3 hb
      have HRC := Lib.hid hRc
      clear hb hRc CHE
      go_wp2_with fail
      refine (OFE.out _ _ (HR.out.below hB3) RD3.out).mono ?_
      rintro e w5 ⟨rfl, hb⟩
      replace c0 := keep hb c0
      replace c1 := keep hb c1
      replace cl := keep hb cl
      replace zc := keep hb zc
      replace RD3 := Lib.hid (RD3.out.below hb)
      replace HRC := Lib.hid (HRC.out.below hb)
      replace hB3 := belTrans hB3 hb
      clear hb OFE
      go_upto_region 10 with fail
      obtain ⟨W6, hW6⟩ : ∃ W6, w5.alloc (.cells #[.int .i64 O1, .int .i64 O2] 35) = W6 := ⟨_, rfl⟩
      have hk6 : Below w5.heap.size w5 W6 := by rw [← hW6]; exact below_alloc1 _ _
      have u0 : W6.cell? ⟨w5.heap.size, 0, none⟩ = some (.int .i64 O1) := by rw [← hW6]; simp [go_sem]
      have u1 : W6.cell? ⟨w5.heap.size, 1, none⟩ = some (.int .i64 O2) := by rw [← hW6]; simp [go_sem]
      replace c0 := keep hk6 c0
      replace c1 := keep hk6 c1
      replace cl := keep hk6 cl
      replace zc := keep hk6 zc
      replace RD3 := Lib.hid (RD3.out.below hk6)
      replace HRC := Lib.hid (HRC.out.below hk6)
      replace hB3 := belTrans hB3 hk6
      rw [hW6]
      clear hW6 hk6
      go_wp2_with fail
      refine (WEE.out _ _ (HR.out.below hB3) RD3.out).mono ?_
      rintro e w7 ⟨wv, rfl, -, hb⟩
      replace cl := keep hb cl
      replace zc := keep hb zc
      replace u0 := keep hb u0
      replace u1 := keep hb u1
      replace HRC := Lib.hid (HRC.out.below hb)
      replace hB3 := belTrans hB3 hb
      clear hb WEE RD3 c0 c1
      go_upto_region 11 with fail
      go_region_held3 (fun w' => w'.cell? ⟨lb, lo + k, none⟩ = some (.int .i64 X) ∧ w'.cell? ⟨g, k, none⟩ = some (.int .i64 r) ∧ w'.cell? ⟨w5.heap.size, 0, none⟩ = some (.int .i64 O1) ∧ w'.cell? ⟨w5.heap.size, 1, none⟩ = some (.int .i64 O2) ∧ Below w7.heap.size w7 w')
        (first
          | (go_split_ands; refine ⟨?_, ?_, ?_, ?_, ?_⟩ <;> with_reducible first | (refine keep hb ?_; assumption) | exact belTrans (by assumption) hb)
          | (go_split_ands; refine ⟨?_, ?_, ?_, ?_, ?_⟩ <;> with_reducible first | assumption | exact belAlloc (by assumption) _ | exact Below.drew (by assumption) | exact Below.drew (Below.refl _ _) | exact Below.refl _ _ | go_keep))
        (first | (go_at_call 41; refine (IA.out _).mono ?_; rintro e w8 ⟨rfl, hb⟩))
      rename_i hH2
      have hV := hH2.2.2.2.2
      replace HRC := Lib.hid (HRC.out.below hV)
      replace hB3 := belTrans hB3 hV
      clear hV hH2 IA cl zc u0 u1
      cases hsd : sound (closed err ss rs')
      · obtain ⟨rfl, rfl, hmem⟩ := F5.out hsd
        obtain ⟨ca, cc, rfl, -, -, hcc⟩ := HRC.out.ints
        have HCC := Lib.hid hcc
        have HM := Lib.hid hmem
        clear F4 F5 HRC hsd hcc hmem
        have hcl := CLN.out
        go_wp2_with fail
        go_loopw [17, 18] (fun x i wr => ∃ (j : Nat) (b : Bool), j ≤ CL.length ∧ i = .int .i64 j ∧ x = .bool b ∧ Below w8.heap.size w8 wr ∧ Hid (∀ q, q < j → ∀ h : q < CL.length, CL[q] = (k : Int) → b = true)) (fun _ i _ => CL.length - (intOf i).toNat)
        case atStart => exact ⟨0, false, Nat.zero_le _, rfl, rfl, Below.refl _ _, fun q hq => absurd hq (Nat.not_lt_zero _)⟩
        case round =>
          obtain ⟨j, b, hj, rfl, rfl, hW, A⟩ := hrel
          by_cases hlt : j < CL.length
          · have hlt' : (j : Int) < CL.length := by omega
            cases b
            · obtain ⟨db, doff, rfl, hdb, hdc⟩ := HCC.out (by omega)
              have gc := keep hW (hdc j hlt)
              generalize hx : CL[j] = x at gc
              have HX := Lib.hid hx
              clear hdc hx
              by_cases hq : x = (k : Int)
              · have t1 : (x == (k : Int)) = true := by rw [beq_iff_eq]; exact hq
                clear hq
                go_wp2_with fail
                go_roundw
                case rel => exact ⟨j + 1, true, by omega, by go_num, rfl, hW, fun _ _ _ _ => rfl⟩
                case measure => simp [intOf]; omega
              · have t1 : (x == (k : Int)) = false := by rw [beq_eq_false_iff_ne]; exact hq
                have HQQ := Lib.hid hq
                clear hq
                go_wp2_with fail
                go_roundw
                case rel =>
                  refine ⟨j + 1, false, by omega, by go_num, rfl, hW, fun q hq h e => ?_⟩
                  by_cases e2 : q = j
                  · subst e2
                    exact absurd (HX.out.symm.trans e) HQQ.out
                  · exact A.out q (by omega) h e
                case measure => simp [intOf]; omega
            · go_wp2_with fail
              go_roundw
              case rel => exact ⟨j + 1, true, by omega, by go_num, rfl, hW, fun _ _ _ _ => rfl⟩
              case measure => simp [intOf]; omega
          · obtain rfl : j = CL.length := by omega
            obtain rfl : b = true := by
              obtain ⟨q, hq, e⟩ := List.getElem_of_mem HM.out
              exact A.out q hq hq e
            replace hB3 := belTrans hB3 hW
            clear hlt A HCC HM hW
            go_wp2_with fail
            refine (awake_any _).mono ?_
            rintro e w9 ⟨rfl, hb⟩
            replace hB3 := belTrans hB3 hb
            go_wp2_with fail
            go_ret
            exact ⟨rfl, hB3⟩
      · obtain ⟨rfl, rfl, rfl⟩ := F4.out hsd
        obtain ⟨ca, cc, rfl, -, -, -⟩ := HRC.out.ints
        clear F4 F5 HRC hsd CLN
        go_wp2_with fail
        refine (awake_any _).mono ?_
        rintro e w9 ⟨rfl, hb⟩
        replace hB3 := belTrans hB3 hb
        go_wp2_with fail
        go_ret
        exact ⟨rfl, hB3⟩

end Go.Proofs.Ytnombgiacfeloaa
