/- The walk of the reference's When: in which minute each ring sets in a truth. -/
import Derived.Test.YtcncmlpppabbcaaGreatD31
import Derived.Deep.RegionHeld3
import Derived.Deep.DeepCutAuto
namespace Go.Proofs.YtcncmlpppabbcaaGreat
set_option linter.unusedVariables false
set_option linter.unusedSimpArgs false
open Go.RowKit
attribute [local go_sem] Oper.semAt_some

theorem ints_one (zs : List Int) : ∀ r ∈ ints zs, ∀ x ∈ r, x.oneCell' = true := by
  intro r hr x hx
  obtain ⟨z, -, rfl⟩ := List.mem_map.1 hr
  simp at hx
  subst hx
  rfl
theorem lat_of_owns {w : World} {base n L : Nat} {v : Value} {zs : List Int} (h : w.ownsRow base 3 1 v n (ints zs).flatten) (hn : zs.length = n) (h0 : 0 < n) (hL : w.heap.size ≤ L) {f : Nat → Int} (hf : (List.range n).map f = zs) : LAt w L v n f := by
  rcases h.2 with ⟨-, q⟩ | ⟨g, cap, cur, e, h1, h2, -⟩
  · omega
  · refine ⟨g, cap, e, ?_, ?_⟩
    · have := (Array.getElem?_eq_some_iff.1 h2).1
      omega
    · rw [hf]
      exact Rd.of_owns (rows := ints zs) (by rw [ints_length, hn]; exact h) (fun r hr => by obtain ⟨z, -, rfl⟩ := List.mem_map.1 hr; rfl)

set_option maxRecDepth 100000 in
set_option maxHeartbeats 4000000 in
theorem refWhen_any (m : Mo) (hm : MoOk m) (ps ws : List Int) (hn : (ps.length : Int) = m.rings) (hK : ws.length ≤ 600) (hP : ∀ i, i < ps.length → 0 ≤ ps.getD i 0 ∧ ps.getD i 0 ≤ 2000) (hW : ∀ i, i < ws.length → 0 ≤ ws.getD i 0 ∧ ws.getD i 0 ≤ 2000)
    (pv wv : Value) (w : World) (hp : Rd w 1 pv (ints ps)) (hw : Rd w 1 wv (ints ws)) :
    Calls Tryz.prog 13 #[.agg m.cells, .agg #[pv, wv]] w fun e w' => ∃ v', e = .returned v' ∧ Rd w' 1 v' (ints ((List.range ps.length).map (wonF m (fun i => ps.getD i 0) (fun i => ws.getD i 0) (ws.length + 1)))) ∧ Below w.heap.size w w' := by
  have n1 : 1 ≤ ps.length := by have := hm.rings; omega
  have n8 : ps.length ≤ 8 := by have := hm.rings; omega
  have hz := wk_zero hn (fun i => ws.getD i 0)
  have hww : ∀ N, N ≤ ws.length → Warmy (trR m (fun i => ps.getD i 0) (fun i => ws.getD i 0) N) := fun N hN => trR_warm hm (fun i hi => hP i (by omega)) N (fun j hj => hW j (by omega))
  obtain ⟨a, c, rfl, -, hmx, hq⟩ := hp.ints
  obtain ⟨pb, poff, rfl, hpb, hpc⟩ := hq (by omega)
  obtain ⟨a2, c2, rfl, -, hmx2, hq2⟩ := hw.ints
  have HC := Lib.hid (fun (h0 : 0 < ws.length) => show ∃ b off, a2 = some ⟨b, off, none⟩ ∧ ∀ (W' : World) (hbW : Below w.heap.size w W') (j : Nat) (hj : j < ws.length), W'.cell? ⟨b, off + j, none⟩ = some (.int .i64 (ws.getD j 0)) by
    obtain ⟨b, off, rfl, hb, hc⟩ := hq2 h0
    refine ⟨b, off, rfl, fun W' hbW j hj => ?_⟩
    rw [hbW.cell (p := ⟨b, _, none⟩) hb, hc j hj]
    simp [List.getD, hj])
  obtain ⟨P, hPe⟩ : ∃ P : Nat → Int, (fun i => ps.getD i 0) = P := ⟨_, rfl⟩
  obtain ⟨W, hWe⟩ : ∃ W : Nat → Int, (fun i => ws.getD i 0) = W := ⟨_, rfl⟩
  have hWi : ∀ j, ws.getD j 0 = W j := fun j => by rw [← hWe]
  have HW2 : Hid (∀ j, j < ws.length → 0 ≤ W j ∧ W j ≤ 2000) := Lib.hid fun j hj => by rw [← hWi]; exact hW j hj
  simp only [hWi] at HC
  rw [hPe, hWe] at hz hww ⊢
  obtain ⟨n, hnn⟩ : ∃ n, ps.length = n := ⟨_, rfl⟩
  obtain ⟨K, hKK⟩ : ∃ K, ws.length = K := ⟨_, rfl⟩
  have HPR := Lib.hid hp
  have HPS := Lib.hid hnn
  rw [hnn] at hn n1 n8 hmx hz HPR ⊢
  rw [hKK] at hK hmx2 HC HW2 hww ⊢
  have HN := Lib.hid hn
  have HO := Lib.hid hm
  have HZ := Lib.hid hz
  have HWW := Lib.hid hww
  have NX := Lib.hid (fun (w : World) (N : Nat) (hN : N < K) (v : Value) (h : Rd w 1 v (ints (wk m P W n N))) => show Calls Tryz.prog 54 #[.agg m.cells, v, .int .i64 (W N)] w fun e w' => ∃ v', e = .returned v' ∧ Rd w' 1 v' (ints (wk m P W n (N + 1))) ∧ (∃ g c, v' = .slice (some ⟨g, 0, none⟩) n c ∧ w.heap.size ≤ g) ∧ Below w.heap.size w w' by
    have e : (wk m P W n N).length = n := by simp [wk]
    have h1 := refNext_any m hm (wk m P W n N) (by rw [e]; exact hn) (fun i hi => by
      have q : (wk m P W n N).getD i 0 = trR m P W N i := congrFun (wk_get hn P W N) i
      rw [q]
      exact hww N (Nat.le_of_lt hN) i) (W N) (HW2.out N hN) v w h
    rw [wk_next hn, e] at h1
    exact h1)
  have HB := Lib.hid (below_alloc2 w (.cells m.cells 25) (.cells #[.slice (some ⟨pb, poff, none⟩) n c, .slice a2 K c2] 57))
  have HM := Lib.hid ((MoAt.new w m 25).below (below_alloc1 (w.alloc (.cells m.cells 25)) (.cells #[.slice (some ⟨pb, poff, none⟩) n c, .slice a2 K c2] 57)))
  have HT := Lib.hid (heap_alloc_new (w.alloc (.cells m.cells 25)) (.cells #[.slice (some ⟨pb, poff, none⟩) n c, .slice a2 K c2] 57))
  obtain ⟨i0, hi0, hz0, hz1, hz2⟩ := info_parts info3a
  clear hm hn hz hww hp hw hP hW hq hq2 hpc hnn hKK hPe hWe hWi
  unfold Mo.cells at HB HM HT NX
  unfold Mo.cells
  go_enter Tryz.func13, Tryz.ntmps13
  go_upto_region 1 with fail
  rw [show (w.alloc (.cells #[.int .i64 m.rings, .int .i64 m.give, .int .i64 m.plo, .int .i64 m.phi, .int .i64 m.wlo, .int .i64 m.whi, .int .i64 m.set, .int .i64 m.shrink, .int .i64 m.skin, .int .i64 m.fill, .int .i64 m.gap, .int .i64 m.deep] 25)).heap.size = w.heap.size + 1 by simp] at HT
  generalize ((w.alloc (.cells #[.int .i64 m.rings, .int .i64 m.give, .int .i64 m.plo, .int .i64 m.phi, .int .i64 m.wlo, .int .i64 m.whi, .int .i64 m.set, .int .i64 m.shrink, .int .i64 m.skin, .int .i64 m.fill, .int .i64 m.gap, .int .i64 m.deep] 25)).alloc (.cells #[.slice (some ⟨pb, poff, none⟩) n c, .slice a2 K c2] 57)) = W0 at *
  have t0 : W0.cell? ⟨w.heap.size + 1, 0, none⟩ = some (.slice (some ⟨pb, poff, none⟩) n c) := cell_of_row W0 _ 0 _ 57 (0, 0) HT.out
  have t1 : W0.cell? ⟨w.heap.size + 1, 1, none⟩ = some (.slice a2 K c2) := cell_of_row W0 _ 1 _ 57 (0, 0) HT.out
  have HPR0 := Lib.hid (HPR.out.below HB.out)
  have lW0 : w.heap.size + 1 < W0.heap.size := lt_of_cell t0
  go_upto_region 2 with (at_builtin; refine wpList_append_rd rfl (.tmp 10) (.tmp 12) 26 rfl W0.heap.size 3 i0 (.int .i64 0) 1 8 Tryz.underlying26 hi0 hz0 hz1 hz2 rfl (by decide) _ 0 [] (by rfl) (owns_empty W0 3 1) _ (ints ps) (by rfl) (HPR0.out.below (below_alloc1 _ _)) (ints_one _) (by rw [ints_length, HPS.out]; unfold maxLen; omega) (by rw [ints_length, HPS.out]; omega) (by simp) ?_; intro V4 w4 own4 hg4)
  have own5 : w4.ownsRow W0.heap.size 3 1 V4 n (ints ps).flatten := by
    have e : 0 + (ints ps).length = n := by rw [ints_length, HPS.out, Nat.zero_add]
    rw [e, List.nil_append] at own4
    exact own4
  have hlat := lat_of_owns own5 HPS.out n1 (Nat.le_refl _) HZ.out
  have hb4 : Below W0.heap.size W0 w4 := (below_alloc1 W0 (.cells #[] 3)).trans (grown_below hg4 (by simp) (fun j e => by simp [Value.ownBlock] at e; omega))
  clear own4 hg4 own5
  obtain ⟨g4, c4, rfl, hg4, hrd4⟩ := hlat
  have lW4 := hb4.size
  go_upto_region 3 with (at_make; refine wpList_make_full _ rfl _ _ 26 rfl w4.heap.size 3 i0 (.int .i64 0) 1 Tryz.underlying26 hi0 hz0 hz1 .i64 .i64 n n n rfl rfl rfl rfl (by rw [hz2]; omega) (by unfold maxLen; omega) (Nat.le_refl _) ?_; intro w5 hown hg)
  obtain ⟨cur, hcur, rfl⟩ := inAt_made hown
  have hI5 : InAt w5 w4.heap.size n (fun _ => 0) := hcur
  have hb5 : Below w4.heap.size w4 w5 := grown_below hg (Nat.le_refl _) (by simp)
  have HLA : Hid (LAt w5 w4.heap.size (.slice (some ⟨g4, 0, none⟩) n c4) n (trR m P W 0)) := Lib.hid ⟨g4, c4, rfl, hg4, hrd4.below hb5⟩
  clear hcur hown hg hrd4 hg4
  have hF : ∀ W', Below w4.heap.size w5 W' → MoAt W' w.heap.size m ∧ W'.cell? ⟨w.heap.size + 1, 1, none⟩ = some (.slice a2 K c2) ∧ Below w.heap.size w W' := fun W' hb => by
    have b0 : Below w.heap.size W0 w5 := (hb4.mono (by omega)).trans (hb5.mono (by omega))
    have b1 : Below w.heap.size w5 W' := hb.mono (by omega)
    have q : Below (w.heap.size + 2) W0 W' := ((hb4.mono (by omega)).trans (hb5.mono (by omega))).trans (hb.mono (by omega))
    exact ⟨HM.out.same8 (q.block _ (by omega)), (World.cell?_of_block (q.block (w.heap.size + 1) (by omega))).trans t1, (HB.out.trans b0).trans b1⟩
  have HF := Lib.hid hF
  have L5 := hI5.lt
  generalize w4.heap.size = L at *
  have HI5 := Lib.hid hI5
  clear hb4 hb5 hF t0 t1 hI5 HM HB HT HPR0 HPR
  go_wp2_with fail
  go_loopw [7] (fun i wr => ∃ k : Nat, k ≤ n ∧ i = .int .i64 k ∧ Hid (InAt wr L n (fun i => if i < k then -1 else 0)) ∧ Hid (SameAt (fun b => b ≠ L) w5 wr) ∧ Hid (Below L w5 wr)) (fun i _ => n - (intOf i).toNat)
  case atStart => exact ⟨0, Nat.zero_le _, rfl, Lib.hid (HI5.out.congr fun i _ => by rw [if_neg (Nat.not_lt_zero _)]), Lib.hid (SameAt.refl _ _), Lib.hid (Below.refl _ _)⟩
  case round =>
    obtain ⟨k, hk, rfl, hI, hS, hB⟩ := hrel
    by_cases hlt : k < n
    · have hlt' : (k : Int) < n := by omega
      have fz := hI.out.frozen k
      have ck := hI.out.cell hlt
      rw [if_neg (Nat.lt_irrefl _)] at ck
      go_wp2_with fail
      go_roundw
      case rel =>
        refine ⟨k + 1, by omega, by go_num, Lib.hid ((hI.out.set (-1) hlt).congr fun i hi => ?_), Lib.hid (hS.out.setCell _ (fun q => q rfl)), Lib.hid (hB.out.setCell (p := ⟨L, k, none⟩) (Nat.le_refl _) _)⟩
        unfold putR
        by_cases e : i = k
        · subst e; rw [if_pos rfl, if_pos (Nat.lt_succ_self _)]
        · rw [if_neg e]
          show (if i < k then (-1 : Int) else 0) = _
          by_cases e2 : i < k
          · rw [if_pos e2, if_pos (by omega)]
          · rw [if_neg e2, if_neg (by omega)]
      case measure => simp [intOf]; omega
    · obtain rfl : k = n := by omega
      have hW0 : Hid (InAt wr L k (wonF m P W 0)) := Lib.hid (hI.out.congr fun i hi => by rw [if_pos hi]; rfl)
      have hL0 : Hid (LAt wr L (.slice (some ⟨g4, 0, none⟩) k c4) k (trR m P W 0)) := Lib.hid (HLA.out.same hS.out)
      clear hI hS HLA HI5
      go_wp2_with fail
      go_loopw [5, 8] (fun v i wr => ∃ N : Nat, N ≤ K + 1 ∧ i = .int .i64 N ∧ Hid (LAt wr L v k (trR m P W (N - 1))) ∧ Hid (InAt wr L k (wonF m P W N)) ∧ Hid (Below L w5 wr)) (fun _ i _ => K + 1 - (intOf i).toNat)
      case atStart => exact ⟨0, Nat.zero_le _, rfl, hL0, hW0, hB⟩
      case round =>
        obtain ⟨N, hN, rfl, hLA, hI, hBr⟩ := hrel
        obtain ⟨cm, ct, hbw⟩ := HF.out _ hBr.out
        by_cases hNK : N ≤ K
        · have hNK' : (N : Int) ≤ K := by omega
          go_upto_if 34 with fail
          go_cut [5] (fun x wx => Hid (LAt wx L x k (trR m P W N)) ∧ Hid (Below wr.heap.size wr wx))
          case first =>
            rcases Nat.eq_zero_or_pos N with h0 | h0
            · subst h0
              have q0 : ¬ ((0 : Int) < ((0 : Nat) : Int)) := by decide
              go_wp2_with fail
              go_meet
              exact ⟨hLA, Lib.hid (Below.refl _ _)⟩
            · obtain ⟨j, hj⟩ : ∃ j, N = j + 1 := ⟨N - 1, by omega⟩
              obtain ⟨wb, woff, rfl, hcw⟩ := HC.out (by omega)
              have cw := hcw wr hbw j (by omega)
              have hjK : j < K := by omega
              have ej : N - 1 = j := by omega
              have q0 : (0 : Int) < (N : Int) := by omega
              have q1 : (N : Int) - 1 = (j : Int) := by omega
              have q3 : (j : Int) < (K : Int) := by omega
              have q4 : (0 : Int) ≤ (j : Int) := by omega
              rw [ej] at hLA
              have HJJ := Lib.hid hj
              clear hj h0 ej
              have hRD : Rd wr 1 u5 (ints (wk m P W k j)) := hLA.out.rd
              have HRD := Lib.hid hRD
              have HCM := Lib.hid cm
              clear hcw hRD
              go_upto_region 11 with fail
              have q2 : wrap64 ((N : Int) - 1) = (j : Int) := by rw [q1]; simp only [wrap64]; omega
              have q5 : IntKind.i64.wrap ((N : Int) - 1) = (j : Int) := by rw [q1]; exact IntWalk.i64_in _ (by omega)
              have q6 : IntKind.i64.wrap (j : Int) = (j : Int) := IntWalk.i64_in _ (by omega)
              have q7 : wrap64 (j : Int) = (j : Int) := by simp only [wrap64]; omega
              obtain ⟨c0, c1, c2', c3, c4', c5, c6, c7, c8, c9, c10, c11⟩ := cm
              go_region_held3 (fun w' => w'.cell? ⟨w.heap.size, 0, none⟩ = some (.int .i64 m.rings) ∧ w'.cell? ⟨w.heap.size, 1, none⟩ = some (.int .i64 m.give) ∧ w'.cell? ⟨w.heap.size, 2, none⟩ = some (.int .i64 m.plo) ∧ w'.cell? ⟨w.heap.size, 3, none⟩ = some (.int .i64 m.phi) ∧ w'.cell? ⟨w.heap.size, 4, none⟩ = some (.int .i64 m.wlo) ∧ w'.cell? ⟨w.heap.size, 5, none⟩ = some (.int .i64 m.whi) ∧ w'.cell? ⟨w.heap.size, 6, none⟩ = some (.int .i64 m.set) ∧ w'.cell? ⟨w.heap.size, 7, none⟩ = some (.int .i64 m.shrink) ∧ w'.cell? ⟨w.heap.size, 8, none⟩ = some (.int .i64 m.skin) ∧ w'.cell? ⟨w.heap.size, 9, none⟩ = some (.int .i64 m.fill) ∧ w'.cell? ⟨w.heap.size, 10, none⟩ = some (.int .i64 m.gap) ∧ w'.cell? ⟨w.heap.size, 11, none⟩ = some (.int .i64 m.deep) ∧ w'.cell? ⟨w.heap.size + 1, 1, none⟩ = some (.slice (some ⟨wb, woff, none⟩) K c2) ∧ w'.cell? ⟨wb, woff + j, none⟩ = some (.int .i64 (W j)))
                (first
                  | with_reducible exact ⟨keep (Below.drew (Below.refl _ _)) c0, keep (Below.drew (Below.refl _ _)) c1, keep (Below.drew (Below.refl _ _)) c2', keep (Below.drew (Below.refl _ _)) c3, keep (Below.drew (Below.refl _ _)) c4', keep (Below.drew (Below.refl _ _)) c5, keep (Below.drew (Below.refl _ _)) c6, keep (Below.drew (Below.refl _ _)) c7, keep (Below.drew (Below.refl _ _)) c8, keep (Below.drew (Below.refl _ _)) c9, keep (Below.drew (Below.refl _ _)) c10, keep (Below.drew (Below.refl _ _)) c11, keep (Below.drew (Below.refl _ _)) ct, keep (Below.drew (Below.refl _ _)) cw⟩
                  | with_reducible exact ⟨keep hb3 c0, keep hb3 c1, keep hb3 c2', keep hb3 c3, keep hb3 c4', keep hb3 c5, keep hb3 c6, keep hb3 c7, keep hb3 c8, keep hb3 c9, keep hb3 c10, keep hb3 c11, keep hb3 ct, keep hb3 cw⟩)
                ((go_at_call 54; refine (NX.out _ j hjK _ (HRD.out.below (Below.drew (Below.refl _ _)))).mono ?_; rintro e w3 ⟨v3, rfl, hr3, ⟨g3, c3', rfl, hg3⟩, hb⟩; have hb3 : Below wr.heap.size wr w3 := belT (Below.drew (Below.refl _ _)) hb))
              have lI := hI.out.lt
              have HL3 : Hid (LAt w3 L (.slice (some ⟨g3, 0, none⟩) k c3') k (trR m P W N)) := Lib.hid ⟨g3, c3', rfl, by
                have q : wr.heap.size ≤ g3 := hg3
                exact Nat.ne_of_gt (Nat.lt_of_lt_of_le lI q), by rw [HJJ.out]; exact hr3⟩
              have HB3 := Lib.hid hb3
              clear hr3 hg3 hb hb3
              go_wp2_with fail
              go_meet
              exact ⟨HL3, HB3⟩
          case rest =>
            obtain ⟨hLc, hbc⟩ := hcut
            obtain ⟨gl, cl, rfl, hgl, hgl2, hcl⟩ := hLc.out.cell (by omega)
            have hIc := Lib.hid (hI.out.same (hbc.out.block L hI.out.lt))
            have hBc := Lib.hid (hBr.out.trans (hbc.out.mono (Nat.le_of_lt hI.out.lt)))
            have HCL := Lib.hid hcl
            clear hcl cm ct hbw hLA hI hBr hbc
            go_wp2_with fail
            go_loopw [9] (fun i wr2 => ∃ j : Nat, j ≤ k ∧ i = .int .i64 j ∧ Hid (InAt wr2 L k (fun i => if i < j then wonF m P W (N + 1) i else wonF m P W N i)) ∧ Hid (SameAt (fun b => b ≠ L) wc wr2) ∧ Hid (Below L w5 wr2)) (fun i _ => k - (intOf i).toNat)
            case atStart => exact ⟨0, Nat.zero_le _, rfl, Lib.hid (hIc.out.congr fun i _ => by rw [if_neg (Nat.not_lt_zero _)]), Lib.hid (SameAt.refl _ _), hBc⟩
            case round =>
              obtain ⟨j, hj, rfl, hI2, hS2, hB2⟩ := hrel
              by_cases hjl : j < k
              · have hjl' : (j : Int) < k := by omega
                have d1 := hS2.out.cell hgl (HCL.out j hjl)
                have d2 := hI2.out.cell hjl
                rw [if_neg (Nat.lt_irrefl _)] at d2
                have fz := hI2.out.frozen j
                have cs := (HF.out _ hB2.out).1.c6
                have hset := @wonF_set m P W N j
                have hstay := @wonF_stay m P W N j
                have hnext : ∀ (g : Nat → Int), (∀ i, i < k → g i = if i < j + 1 then wonF m P W (N + 1) i else wonF m P W N i) → ∀ i, i < k → (fun i => g i) i = (fun i => if i < j + 1 then wonF m P W (N + 1) i else wonF m P W N i) i := fun g q i hi => q i hi
                generalize hT : trR m P W N j = T at *
                generalize hV : wonF m P W N j = V at *
                have HT2 := Lib.hid hT
                have HV2 := Lib.hid hV
                have HSET := Lib.hid hset
                have HSTAY := Lib.hid hstay
                clear hT hV hset hstay hnext
                go_upto_region 15 with fail
                by_cases hv : V < 0
                · have s1 : decide (V < 0) = true := decide_eq_true hv
                  by_cases ht : T ≤ m.set
                  · have s2 : decide (T ≤ m.set) = true := decide_eq_true ht
                    have HYE := Lib.hid (And.intro hv ht)
                    go_quiet (fail)
                    have hd := below_drewN (Below.refl wr.heap.size wr) nq
                    have hId := hI2.out.same (hd.block L hI2.out.lt)
                    have hSd := hS2.out.trans (SameAt.of_below hd)
                    have hBd := below_drewN hB2.out nq
                    generalize wr.drewN nq = wd at *
                    have fzd := hId.frozen j
                    have ckd := hId.cell hjl
                    rw [if_neg (Nat.lt_irrefl _), HV2.out] at ckd
                    have HW := Lib.hid (And.intro hId (And.intro hSd hBd))
                    clear hd hId hSd hBd
                    go_wp2_with fail
                    go_roundw
                    case rel =>
                      refine ⟨j + 1, by omega, by go_num, Lib.hid ((HW.out.1.set (N : Int) hjl).congr fun i hi => ?_), Lib.hid (HW.out.2.1.setCell _ (fun q => q rfl)), Lib.hid (HW.out.2.2.setCell (p := ⟨L, j, none⟩) (Nat.le_refl _) _)⟩
                      unfold putR
                      by_cases e : i = j
                      · subst e; rw [if_pos rfl, if_pos (Nat.lt_succ_self _), HSET.out HYE.out]
                      · rw [if_neg e]
                        show (if i < j then wonF m P W (N + 1) i else wonF m P W N i) = _
                        by_cases e2 : i < j
                        · rw [if_pos e2, if_pos (by omega)]
                        · rw [if_neg e2, if_neg (by omega)]
                    case measure => simp [intOf]; omega
                  · have s2 : decide (T ≤ m.set) = false := decide_eq_false ht
                    have HNO : Hid (¬ (V < 0 ∧ T ≤ m.set)) := Lib.hid fun q => ht q.2
                    go_quiet (fail)
                    have hd := below_drewN (Below.refl wr.heap.size wr) nq
                    have hId := hI2.out.same (hd.block L hI2.out.lt)
                    have hSd := hS2.out.trans (SameAt.of_below hd)
                    have hBd := below_drewN hB2.out nq
                    generalize wr.drewN nq = wd at *
                    have HW := Lib.hid (And.intro hId (And.intro hSd hBd))
                    clear hd hId hSd hBd
                    go_wp2_with fail
                    go_roundw
                    case rel =>
                      refine ⟨j + 1, by omega, by go_num, Lib.hid (HW.out.1.congr fun i hi => ?_), Lib.hid HW.out.2.1, Lib.hid HW.out.2.2⟩
                      by_cases e : i = j
                      · subst e; rw [if_neg (Nat.lt_irrefl _), if_pos (Nat.lt_succ_self _), HSTAY.out HNO.out, HV2.out]
                      · by_cases e2 : i < j
                        · rw [if_pos e2, if_pos (by omega)]
                        · rw [if_neg e2, if_neg (by omega)]
                    case measure => simp [intOf]; omega
                · have s1 : decide (V < 0) = false := decide_eq_false hv
                  have HNO : Hid (¬ (V < 0 ∧ T ≤ m.set)) := Lib.hid fun q => hv q.1
                  go_quiet (fail)
                  have hd := below_drewN (Below.refl wr.heap.size wr) nq
                  have hId := hI2.out.same (hd.block L hI2.out.lt)
                  have hSd := hS2.out.trans (SameAt.of_below hd)
                  have hBd := below_drewN hB2.out nq
                  generalize wr.drewN nq = wd at *
                  have HW := Lib.hid (And.intro hId (And.intro hSd hBd))
                  clear hd hId hSd hBd
                  go_wp2_with fail
                  go_roundw
                  case rel =>
                    refine ⟨j + 1, by omega, by go_num, Lib.hid (HW.out.1.congr fun i hi => ?_), Lib.hid HW.out.2.1, Lib.hid HW.out.2.2⟩
                    by_cases e : i = j
                    · subst e; rw [if_neg (Nat.lt_irrefl _), if_pos (Nat.lt_succ_self _), HSTAY.out HNO.out, HV2.out]
                    · by_cases e2 : i < j
                      · rw [if_pos e2, if_pos (by omega)]
                      · rw [if_neg e2, if_neg (by omega)]
                  case measure => simp [intOf]; omega
              · obtain rfl : j = k := by omega
                have hIn : Hid (InAt wr L j (wonF m P W (N + 1))) := Lib.hid (hI2.out.congr fun i hi => by rw [if_pos hi])
                have hLn : Hid (LAt wr L (.slice (some ⟨gl, 0, none⟩) j cl) j (trR m P W (N + 1 - 1))) := Lib.hid (hLc.out.same hS2.out)
                go_wp2_with fail
                go_roundw
                case rel => (first | exact ⟨N + 1, by omega, by go_num, hLn, hIn, hB2⟩ | ((repeat apply Exists.intro); exact ⟨⟨N + 1, by omega, by go_num, hLn, hIn, hB2⟩, rfl⟩))
                case measure => simp [intOf]; omega
        · obtain rfl : N = K + 1 := by omega
          have hge : ¬ ((K + 1 : Nat) : Int) ≤ K := by omega
          have HR : Hid (Rd wr 1 (.slice (some ⟨L, 0, none⟩) k k) (ints ((List.range k).map (wonF m P W (K + 1))))) := Lib.hid (hI.out.rd (by omega))
          have HBW := Lib.hid hbw
          clear cm
          go_wp2_with fail
          go_ret
          exact ⟨_, rfl, HR.out, HBW.out⟩

end Go.Proofs.YtcncmlpppabbcaaGreat
