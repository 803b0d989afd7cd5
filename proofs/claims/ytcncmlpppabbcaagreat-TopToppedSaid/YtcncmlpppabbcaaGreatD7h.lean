/- The walk of the iterator of mould's minutes, at the hot end. -/
import Derived.Test.YtcncmlpppabbcaaGreatD7
namespace Go.Proofs.YtcncmlpppabbcaaGreat
set_option linter.unusedVariables false
set_option linter.unusedSimpArgs false
open Go.RowKit
attribute [local go_sem] Oper.semAt_some eqlR equalInR

set_option maxRecDepth 100000 in
set_option maxHeartbeats 4000000 in
theorem minutes_hot (n : Nat) (hn : 1 ≤ n) (m : Mo) (hm : MoOk m) (B1 B2 : Nat) (w : World) (h1 : MoAt w B1 m) (h2 : w.cell? ⟨B2, 0, none⟩ = some (.func (.func 59) #[] #[])) :
    SeqLow Fence.wide n Tryz.prog 92 #[.pointer (some ⟨B1, 0, none⟩), .pointer (some ⟨B2, 0, none⟩)] (minEnc m m.phi m.whi) (fun b => b = B1 ∨ b = B2) 601 w := by
  intro l J Jx W hW hJ hJx hY h0
  have hr := hm.rings
  have hp : 0 ≤ m.phi ∧ m.phi ≤ 2000 := by have := hm.pour; omega
  have hw : 0 ≤ m.whi ∧ m.whi ≤ 2000 := by have := hm.wall; omega
  have HM := Lib.hid (h1.below hW)
  have H2 := Lib.hid (keep hW h2)
  have HY := Lib.hid hY
  have HO := Lib.hid hm
  have HJ := Lib.hid hJ
  have HJ0 := Lib.hid h0
  have HP := Lib.hid hp
  have HW := Lib.hid hw
  clear h1 h2 hW hY hJ hJx h0 hm hp hw
  refine callsIn_wide.2 ?_
  go_enter Tryz.func92, Tryz.ntmps92
  go_upto_region 1 with fail
  have hc1 : Below W.heap.size W (W.alloc (.cells (rgCells fun _ => 0) 121)) := below_alloc1 _ _
  have hz1 : RgAt (W.alloc (.cells (rgCells fun _ => 0) 121)) W.heap.size (fun _ => 0) := RgAt.new W _
  change Code.wp _ _ _ _ (W.alloc (.cells (rgCells fun _ => 0) 121))
  generalize W.alloc (.cells (rgCells fun _ => 0) 121) = W0 at *
  have HI := Lib.hid (And.intro hc1 hz1)
  have c0 := (HM.out.below hc1).c0
  clear hc1 hz1
  go_wp2_with fail
  go_loopw [12] (fun i wr => ∃ k : Nat, i = .int .i64 k ∧ (k : Int) ≤ m.rings ∧ Hid (Below W.heap.size W wr ∧ RgAt wr W.heap.size (fun j => if j < k then m.phi else 0))) (fun i _ => m.rings.toNat - (intOf i).toNat)
  case atStart => exact ⟨0, rfl, by omega, Lib.hid ⟨HI.out.1, HI.out.2.congr fun i _ => by rw [if_neg (by omega)]⟩⟩
  case round =>
    clear HI c0
    obtain ⟨k, rfl, hk, HI⟩ := hrel
    by_cases hlt : (k : Int) < m.rings
    · have hk8 : k < 8 := by omega
      have k8 : (k : Int) < 8 := by omega
      obtain ⟨c0, c1, c2, c3, c4, c5, c6, c7, c8, c9, c10, c11⟩ := HM.out.below HI.out.1
      have f2 := keep HI.out.1 H2.out
      go_wp2_with fail
      refine (hot_any m _ _ _).mono ?_
      rintro e w3 ⟨rfl, hb⟩
      have r3 := HI.out.2.below hb
      have b3 := belT HI.out.1 hb
      have fz := r3.frozen k
      have ct := r3.cell hk8
      have hN : Hid (Below W.heap.size W (w3.setCell ⟨W.heap.size, k, none⟩ (.int .i64 m.phi)) ∧ RgAt (w3.setCell ⟨W.heap.size, k, none⟩ (.int .i64 m.phi)) W.heap.size (fun j => if j < k + 1 then m.phi else 0)) :=
        Lib.hid ⟨b3.setCell (p := ⟨W.heap.size, k, none⟩) (Nat.le_refl _) _, (r3.set (k := k) m.phi hk8).congr fun i _ => by
          unfold putR
          dsimp only
          by_cases e : i = k
          · rw [if_pos e, if_pos (by omega)]
          · rw [if_neg e]
            by_cases e2 : i < k
            · rw [if_pos e2, if_pos (by omega)]
            · rw [if_neg e2, if_neg (by omega)]⟩
      clear c0 c1 c2 c3 c4 c5 c6 c7 c8 c9 c10 c11 f2 hb r3 b3 HI
      go_wp2_with fail
      go_roundw
      case rel => exact ⟨k + 1, by go_num, by omega, hN⟩
      case measure => simp [intOf]; omega
    · have hge : m.rings ≤ (k : Int) := by omega
      have hst : RgAt wr W.heap.size (stR m m.phi m.whi 0) := HI.out.2.congr fun i _ => by
        unfold stR
        by_cases e : i < k
        · rw [if_pos e, if_pos (by omega)]
        · rw [if_neg e, if_neg (by omega)]
      have j0 := HJ.out 0 W wr HJ0.out HI.out.1
      have f2 := keep HI.out.1 H2.out
      have hx := HI.out.1.size
      have hl := hst.lt
      have HI2 := Lib.hid (And.intro j0 (And.intro (HM.out.below HI.out.1) (And.intro f2 (And.intro hst hx))))
      have HL := Lib.hid (And.intro (lt_of_cell HM.out.c0) (lt_of_cell H2.out))
      clear HI hst j0 f2 hx hlt hk HJ0 HM H2 hl
      go_wp2_with fail
      go_loopw [6, 24] (fun s x wr => ∃ (b : Bool) (k : Nat), s = .bool b ∧ x = .int .i64 k ∧ k ≤ 601 ∧ Hid (J k wr ∧ MoAt wr B1 m ∧ wr.cell? ⟨B2, 0, none⟩ = some (.func (.func 59) #[] #[]) ∧ RgAt wr W.heap.size (stR m m.phi m.whi k) ∧ W.heap.size ≤ wr.heap.size ∧ (b = true → ∀ i, i < 8 → stR m m.phi m.whi (k + 1) i = stR m m.phi m.whi k i))) (fun _ x _ => 601 - (intOf x).toNat)
      case atStart => exact ⟨false, 0, rfl, rfl, by omega, Lib.hid ⟨HI2.out.1, HI2.out.2.1, HI2.out.2.2.1, HI2.out.2.2.2.1, HI2.out.2.2.2.2, fun h => by cases h⟩⟩
      case round =>
        clear HI2 hge
        obtain ⟨b, k, rfl, rfl, hk, HI⟩ := hrel
        by_cases hlt : k < 601
        · have hlt' : (k : Int) < 601 := by omega
          obtain ⟨fn, tmps, assign, body, hy, hRR⟩ := HY.out k wr HI.out.1 hlt
          have HRR := Lib.hid hRR
          have l0 := HI.out.2.2.2.1.cell (i := 0) (by omega)
          have l1 := HI.out.2.2.2.1.cell (i := 1) (by omega)
          have l2 := HI.out.2.2.2.1.cell (i := 2) (by omega)
          have l3 := HI.out.2.2.2.1.cell (i := 3) (by omega)
          have l4 := HI.out.2.2.2.1.cell (i := 4) (by omega)
          have l5 := HI.out.2.2.2.1.cell (i := 5) (by omega)
          have l6 := HI.out.2.2.2.1.cell (i := 6) (by omega)
          have l7 := HI.out.2.2.2.1.cell (i := 7) (by omega)
          unfold minEnc rgCells at hy
          clear hRR
          go_upto_region 10 with fail
          refine (wpIn_wide (n := n)).1 ?_
          gi_wp2
          refine HRR.out.mono ?_
          rintro e W3 (⟨rfl, hJ3, hS3⟩ | ⟨rfl, hJx3⟩) <;> gi_wp2
          · have hM3 : MoAt W3 B1 m := by
              have hM := HI.out.2.1
              have hc : ∀ {o : Nat} {v : Value}, wr.cell? ⟨B1, o, none⟩ = some v → W3.cell? ⟨B1, o, none⟩ = some v := fun h => hS3.cell (.inr (.inl rfl)) h
              exact ⟨hc hM.c0, hc hM.c1, hc hM.c2, hc hM.c3, hc hM.c4, hc hM.c5, hc hM.c6, hc hM.c7, hc hM.c8, hc hM.c9, hc hM.c10, hc hM.c11⟩
            have f3 : W3.cell? ⟨B2, 0, none⟩ = some (.func (.func 59) #[] #[]) := hS3.cell (.inr (.inr rfl)) HI.out.2.2.1
            have r3 : RgAt W3 W.heap.size (stR m m.phi m.whi k) := (hS3.block _ (.inl (Nat.le_refl _)) HI.out.2.2.2.1.lt).trans HI.out.2.2.2.1
            have z3 := Nat.le_trans HI.out.2.2.2.2.1 hS3.size
            have hfix := HI.out.2.2.2.2.2
            have H3 := Lib.hid (And.intro hJ3 (And.intro hM3 (And.intro f3 (And.intro r3 z3))))
            have HF := Lib.hid hfix
            clear hJ3 hM3 f3 r3 z3 hfix HI hS3 HRR hy l0 l1 l2 l3 l4 l5 l6 l7
            cases b with
            | true =>
              go_wp2_with fail
              go_roundw
              case rel => exact ⟨true, k + 1, rfl, by go_num, by omega, Lib.hid ⟨H3.out.1, H3.out.2.1, H3.out.2.2.1, H3.out.2.2.2.1.congr fun i hi => (HF.out rfl i hi).symm, H3.out.2.2.2.2, fun _ => st_still HO.out (HF.out rfl)⟩⟩
              case measure => simp [intOf]; omega
            | false =>
              obtain ⟨c0, c1, c2, c3, c4, c5, c6, c7, c8, c9, c10, c11⟩ := H3.out.2.1
              have f3 := H3.out.2.2.1
              have l0 := H3.out.2.2.2.1.cell (i := 0) (by omega)
              have l1 := H3.out.2.2.2.1.cell (i := 1) (by omega)
              have l2 := H3.out.2.2.2.1.cell (i := 2) (by omega)
              have l3 := H3.out.2.2.2.1.cell (i := 3) (by omega)
              have l4 := H3.out.2.2.2.1.cell (i := 4) (by omega)
              have l5 := H3.out.2.2.2.1.cell (i := 5) (by omega)
              have l6 := H3.out.2.2.2.1.cell (i := 6) (by omega)
              have l7 := H3.out.2.2.2.1.cell (i := 7) (by omega)
              have nx : ∀ w' : World, Calls Tryz.prog 64 #[.agg m.cells, .agg #[.int .i64 (stR m m.phi m.whi k 0), .int .i64 (stR m m.phi m.whi k 1), .int .i64 (stR m m.phi m.whi k 2), .int .i64 (stR m m.phi m.whi k 3), .int .i64 (stR m m.phi m.whi k 4), .int .i64 (stR m m.phi m.whi k 5), .int .i64 (stR m m.phi m.whi k 6), .int .i64 (stR m m.phi m.whi k 7)], .int .i64 m.whi] w' fun e w2 => e = .returned (.agg #[.int .i64 (stR m m.phi m.whi (k + 1) 0), .int .i64 (stR m m.phi m.whi (k + 1) 1), .int .i64 (stR m m.phi m.whi (k + 1) 2), .int .i64 (stR m m.phi m.whi (k + 1) 3), .int .i64 (stR m m.phi m.whi (k + 1) 4), .int .i64 (stR m m.phi m.whi (k + 1) 5), .int .i64 (stR m m.phi m.whi (k + 1) 6), .int .i64 (stR m m.phi m.whi (k + 1) 7)]) ∧ Below w'.heap.size w' w2 :=
                fun w' => next_any m HO.out (stR m m.phi m.whi k) (stR_warmy HO.out HP.out HW.out k) m.whi HW.out w'
              have NX := Lib.hid nx
              have nxa : ∀ w' : World, Calls Tryz.prog 64 #[.agg m.cells, .agg #[.int .i64 (stR m m.phi m.whi k 0), .int .i64 (stR m m.phi m.whi k 1), .int .i64 (stR m m.phi m.whi k 2), .int .i64 (stR m m.phi m.whi k 3), .int .i64 (stR m m.phi m.whi k 4), .int .i64 (stR m m.phi m.whi k 5), .int .i64 (stR m m.phi m.whi k 6), .int .i64 (stR m m.phi m.whi k 7)], .int .i64 m.whi] (w'.alloc (.cells #[.int .i64 0, .int .i64 0, .int .i64 0, .int .i64 0, .int .i64 0, .int .i64 0, .int .i64 0, .int .i64 0] 121)) fun e w2 => e = .returned (.agg #[.int .i64 (stR m m.phi m.whi (k + 1) 0), .int .i64 (stR m m.phi m.whi (k + 1) 1), .int .i64 (stR m m.phi m.whi (k + 1) 2), .int .i64 (stR m m.phi m.whi (k + 1) 3), .int .i64 (stR m m.phi m.whi (k + 1) 4), .int .i64 (stR m m.phi m.whi (k + 1) 5), .int .i64 (stR m m.phi m.whi (k + 1) 6), .int .i64 (stR m m.phi m.whi (k + 1) 7)]) ∧ RgAt w2 w'.heap.size (fun _ => 0) ∧ Below (w'.alloc (.cells #[.int .i64 0, .int .i64 0, .int .i64 0, .int .i64 0, .int .i64 0, .int .i64 0, .int .i64 0, .int .i64 0] 121)).heap.size (w'.alloc (.cells #[.int .i64 0, .int .i64 0, .int .i64 0, .int .i64 0, .int .i64 0, .int .i64 0, .int .i64 0, .int .i64 0] 121)) w2 :=
                fun w' => (next_any m HO.out (stR m m.phi m.whi k) (stR_warmy HO.out HP.out HW.out k) m.whi HW.out (w'.alloc (.cells #[.int .i64 0, .int .i64 0, .int .i64 0, .int .i64 0, .int .i64 0, .int .i64 0, .int .i64 0, .int .i64 0] 121))).mono fun e w2 h => ⟨h.1, (RgAt.new w' (fun _ => 0)).below h.2, h.2⟩
              have NXA := Lib.hid nxa
              have coa : Calls Tryz.prog 59 #[.agg m.cells, .agg #[.int .i64 m.wlo, .int .i64 m.whi]] (W3.alloc (.cells #[.int .i64 0, .int .i64 0, .int .i64 0, .int .i64 0, .int .i64 0, .int .i64 0, .int .i64 0, .int .i64 0] 121)).drew fun e w2 => e = .returned (.int .i64 m.whi) ∧ RgAt w2 W3.heap.size (fun _ => 0) ∧ Below (W3.alloc (.cells #[.int .i64 0, .int .i64 0, .int .i64 0, .int .i64 0, .int .i64 0, .int .i64 0, .int .i64 0, .int .i64 0] 121)).drew.heap.size (W3.alloc (.cells #[.int .i64 0, .int .i64 0, .int .i64 0, .int .i64 0, .int .i64 0, .int .i64 0, .int .i64 0, .int .i64 0] 121)).drew w2 :=
                (hot_any m m.wlo m.whi _).mono fun e w2 h => ⟨h.1, (RgAt.new W3 (fun _ => 0)).drew.below h.2, h.2⟩
              have COA := Lib.hid coa
              clear nx nxa coa
              go_upto_region 12 with fail
              go_cut [8] (fun s wx => ∃ T, s = .pointer (some ⟨T, 0, none⟩) ∧ RgAt wx T (stR m m.phi m.whi (k + 1)) ∧ Below W3.heap.size W3 wx ∧ W3.heap.size ≤ T)
              case first =>
                clear H3 HF HY HJ
                go_region_held3 (fun w' => w'.cell? ⟨B1, 0, none⟩ = some (.int .i64 m.rings) ∧ w'.cell? ⟨B1, 1, none⟩ = some (.int .i64 m.give) ∧ w'.cell? ⟨B1, 2, none⟩ = some (.int .i64 m.plo) ∧ w'.cell? ⟨B1, 3, none⟩ = some (.int .i64 m.phi) ∧ w'.cell? ⟨B1, 4, none⟩ = some (.int .i64 m.wlo) ∧ w'.cell? ⟨B1, 5, none⟩ = some (.int .i64 m.whi) ∧ w'.cell? ⟨B1, 6, none⟩ = some (.int .i64 m.set) ∧ w'.cell? ⟨B1, 7, none⟩ = some (.int .i64 m.shrink) ∧ w'.cell? ⟨B1, 8, none⟩ = some (.int .i64 m.skin) ∧ w'.cell? ⟨B1, 9, none⟩ = some (.int .i64 m.fill) ∧ w'.cell? ⟨B1, 10, none⟩ = some (.int .i64 m.gap) ∧ w'.cell? ⟨B1, 11, none⟩ = some (.int .i64 m.deep) ∧ w'.cell? ⟨W.heap.size, 0, none⟩ = some (.int .i64 (stR m m.phi m.whi k 0)) ∧ w'.cell? ⟨W.heap.size, 1, none⟩ = some (.int .i64 (stR m m.phi m.whi k 1)) ∧ w'.cell? ⟨W.heap.size, 2, none⟩ = some (.int .i64 (stR m m.phi m.whi k 2)) ∧ w'.cell? ⟨W.heap.size, 3, none⟩ = some (.int .i64 (stR m m.phi m.whi k 3)) ∧ w'.cell? ⟨W.heap.size, 4, none⟩ = some (.int .i64 (stR m m.phi m.whi k 4)) ∧ w'.cell? ⟨W.heap.size, 5, none⟩ = some (.int .i64 (stR m m.phi m.whi k 5)) ∧ w'.cell? ⟨W.heap.size, 6, none⟩ = some (.int .i64 (stR m m.phi m.whi k 6)) ∧ w'.cell? ⟨W.heap.size, 7, none⟩ = some (.int .i64 (stR m m.phi m.whi k 7)) ∧ w'.cell? ⟨B2, 0, none⟩ = some (.func (.func 59) #[] #[]) ∧ Below W3.heap.size W3 w')
                  (first
                    | with_reducible exact ⟨keep (Below.drew (Below.refl _ _)) c0, keep (Below.drew (Below.refl _ _)) c1, keep (Below.drew (Below.refl _ _)) c2, keep (Below.drew (Below.refl _ _)) c3, keep (Below.drew (Below.refl _ _)) c4, keep (Below.drew (Below.refl _ _)) c5, keep (Below.drew (Below.refl _ _)) c6, keep (Below.drew (Below.refl _ _)) c7, keep (Below.drew (Below.refl _ _)) c8, keep (Below.drew (Below.refl _ _)) c9, keep (Below.drew (Below.refl _ _)) c10, keep (Below.drew (Below.refl _ _)) c11, keep (Below.drew (Below.refl _ _)) l0, keep (Below.drew (Below.refl _ _)) l1, keep (Below.drew (Below.refl _ _)) l2, keep (Below.drew (Below.refl _ _)) l3, keep (Below.drew (Below.refl _ _)) l4, keep (Below.drew (Below.refl _ _)) l5, keep (Below.drew (Below.refl _ _)) l6, keep (Below.drew (Below.refl _ _)) l7, keep (Below.drew (Below.refl _ _)) f3, Below.drew (Below.refl _ _)⟩
                    | with_reducible exact ⟨keep (Below.drew (below_alloc1 _ _)) c0, keep (Below.drew (below_alloc1 _ _)) c1, keep (Below.drew (below_alloc1 _ _)) c2, keep (Below.drew (below_alloc1 _ _)) c3, keep (Below.drew (below_alloc1 _ _)) c4, keep (Below.drew (below_alloc1 _ _)) c5, keep (Below.drew (below_alloc1 _ _)) c6, keep (Below.drew (below_alloc1 _ _)) c7, keep (Below.drew (below_alloc1 _ _)) c8, keep (Below.drew (below_alloc1 _ _)) c9, keep (Below.drew (below_alloc1 _ _)) c10, keep (Below.drew (below_alloc1 _ _)) c11, keep (Below.drew (below_alloc1 _ _)) l0, keep (Below.drew (below_alloc1 _ _)) l1, keep (Below.drew (below_alloc1 _ _)) l2, keep (Below.drew (below_alloc1 _ _)) l3, keep (Below.drew (below_alloc1 _ _)) l4, keep (Below.drew (below_alloc1 _ _)) l5, keep (Below.drew (below_alloc1 _ _)) l6, keep (Below.drew (below_alloc1 _ _)) l7, keep (Below.drew (below_alloc1 _ _)) f3, Below.drew (below_alloc1 _ _)⟩
                    | with_reducible exact ⟨keep (belT hb6 (below_alloc1 _ _)) c0, keep (belT hb6 (below_alloc1 _ _)) c1, keep (belT hb6 (below_alloc1 _ _)) c2, keep (belT hb6 (below_alloc1 _ _)) c3, keep (belT hb6 (below_alloc1 _ _)) c4, keep (belT hb6 (below_alloc1 _ _)) c5, keep (belT hb6 (below_alloc1 _ _)) c6, keep (belT hb6 (below_alloc1 _ _)) c7, keep (belT hb6 (below_alloc1 _ _)) c8, keep (belT hb6 (below_alloc1 _ _)) c9, keep (belT hb6 (below_alloc1 _ _)) c10, keep (belT hb6 (below_alloc1 _ _)) c11, keep (belT hb6 (below_alloc1 _ _)) l0, keep (belT hb6 (below_alloc1 _ _)) l1, keep (belT hb6 (below_alloc1 _ _)) l2, keep (belT hb6 (below_alloc1 _ _)) l3, keep (belT hb6 (below_alloc1 _ _)) l4, keep (belT hb6 (below_alloc1 _ _)) l5, keep (belT hb6 (below_alloc1 _ _)) l6, keep (belT hb6 (below_alloc1 _ _)) l7, keep (belT hb6 (below_alloc1 _ _)) f3, belT hb6 (below_alloc1 _ _)⟩
                    | with_reducible exact ⟨keep (below_store8 hb6 hTle _ _ _ _ _ _ _ _) c0, keep (below_store8 hb6 hTle _ _ _ _ _ _ _ _) c1, keep (below_store8 hb6 hTle _ _ _ _ _ _ _ _) c2, keep (below_store8 hb6 hTle _ _ _ _ _ _ _ _) c3, keep (below_store8 hb6 hTle _ _ _ _ _ _ _ _) c4, keep (below_store8 hb6 hTle _ _ _ _ _ _ _ _) c5, keep (below_store8 hb6 hTle _ _ _ _ _ _ _ _) c6, keep (below_store8 hb6 hTle _ _ _ _ _ _ _ _) c7, keep (below_store8 hb6 hTle _ _ _ _ _ _ _ _) c8, keep (below_store8 hb6 hTle _ _ _ _ _ _ _ _) c9, keep (below_store8 hb6 hTle _ _ _ _ _ _ _ _) c10, keep (below_store8 hb6 hTle _ _ _ _ _ _ _ _) c11, keep (below_store8 hb6 hTle _ _ _ _ _ _ _ _) l0, keep (below_store8 hb6 hTle _ _ _ _ _ _ _ _) l1, keep (below_store8 hb6 hTle _ _ _ _ _ _ _ _) l2, keep (below_store8 hb6 hTle _ _ _ _ _ _ _ _) l3, keep (below_store8 hb6 hTle _ _ _ _ _ _ _ _) l4, keep (below_store8 hb6 hTle _ _ _ _ _ _ _ _) l5, keep (below_store8 hb6 hTle _ _ _ _ _ _ _ _) l6, keep (below_store8 hb6 hTle _ _ _ _ _ _ _ _) l7, keep (below_store8 hb6 hTle _ _ _ _ _ _ _ _) f3, below_store8 hb6 hTle _ _ _ _ _ _ _ _⟩
                    | (go_split_ands; refine ⟨?_, ?_, ?_, ?_, ?_, ?_, ?_, ?_, ?_, ?_, ?_, ?_, ?_, ?_, ?_, ?_, ?_, ?_, ?_, ?_, ?_, ?_⟩ <;> with_reducible first | (refine keep hb ?_; assumption) | exact belT (by assumption) hb)
                    | (go_split_ands; refine ⟨?_, ?_, ?_, ?_, ?_, ?_, ?_, ?_, ?_, ?_, ?_, ?_, ?_, ?_, ?_, ?_, ?_, ?_, ?_, ?_, ?_, ?_⟩ <;> with_reducible first | assumption | (refine keep (below_alloc1 _ _) ?_; assumption) | exact belT (by assumption) (below_alloc1 _ _)))
                  (first
                    | (go_at_call 59; refine COA.out.mono ?_; rintro e w5 ⟨rfl, rT, hb⟩)
                    | (go_at_call 59; refine (hot_any m m.wlo m.whi _).mono ?_; rintro e w5 ⟨rfl, hb⟩; have hb5 : Below W3.heap.size W3 w5 := belT (by go_split_ands; with_reducible assumption) hb)
                    | (go_at_call 64; refine (NX.out w5).mono ?_; rintro e w6 ⟨rfl, hb⟩; have hb6 : Below W3.heap.size W3 w6 := belT (by go_split_ands; with_reducible assumption) hb; have hTle : W3.heap.size ≤ W3.heap.size := Nat.le_refl _; have r6 := rT.below hb; have t0 := r6.cell (i := 0) (by omega); have t1 := r6.cell (i := 1) (by omega); have t2 := r6.cell (i := 2) (by omega); have t3 := r6.cell (i := 3) (by omega); have t4 := r6.cell (i := 4) (by omega); have t5 := r6.cell (i := 5) (by omega); have t6 := r6.cell (i := 6) (by omega); have t7 := r6.cell (i := 7) (by omega); have fT := r6.frozen)
                    | (go_at_call 64; refine (NXA.out _).mono ?_; rintro e w6 ⟨rfl, r6, hb⟩; have hb6 : Below W3.heap.size W3 w6 := belT (by go_split_ands; with_reducible assumption) hb; have hTle : W3.heap.size ≤ w5.heap.size := hb5.size; have t0 := r6.cell (i := 0) (by omega); have t1 := r6.cell (i := 1) (by omega); have t2 := r6.cell (i := 2) (by omega); have t3 := r6.cell (i := 3) (by omega); have t4 := r6.cell (i := 4) (by omega); have t5 := r6.cell (i := 5) (by omega); have t6 := r6.cell (i := 6) (by omega); have t7 := r6.cell (i := 7) (by omega); have fT := r6.frozen)
                    | (go_at_call 64; refine (NX.out _).mono ?_; rintro e w6 ⟨rfl, hb⟩; have hb6 : Below W3.heap.size W3 w6 := belT (by go_split_ands; with_reducible assumption) hb))
                all_goals go_wp2_with fail
                all_goals go_meet
                all_goals first
                  | (have hT9 := hTle; exact ⟨_, rfl, r6.store8 (stR m m.phi m.whi (k + 1)), below_store8 hb6 hTle _ _ _ _ _ _ _ _, hTle⟩)
                  | exact ⟨_, rfl, RgAt.new w6 (stR m m.phi m.whi (k + 1)), belT hb6 (below_alloc1 _ _), hb6.size⟩
              case rest =>
                obtain ⟨T, rfl, rT, hbT, hT⟩ := hcut
                clear c0 c1 c2 c3 c4 c5 c6 c7 c8 c9 c10 c11 f3 l0 l1 l2 l3 l4 l5 l6 l7 NX NXA COA
                have rL := H3.out.2.2.2.1.below hbT
                have hTL : W.heap.size < T := Nat.lt_of_lt_of_le H3.out.2.2.2.1.lt hT
                have hzc := hbT.size
                have H4 := Lib.hid (And.intro (HJ.out (k + 1) W3 wc H3.out.1 (hbT.mono H3.out.2.2.2.2)) (And.intro (H3.out.2.1.below hbT) (And.intro (keep hbT H3.out.2.2.1) (And.intro rL (Nat.le_trans H3.out.2.2.2.2 hzc)))))
                have n0 := rT.cell (i := 0) (by omega)
                have l0 := rL.cell (i := 0) (by omega)
                have n1 := rT.cell (i := 1) (by omega)
                have l1 := rL.cell (i := 1) (by omega)
                have n2 := rT.cell (i := 2) (by omega)
                have l2 := rL.cell (i := 2) (by omega)
                have n3 := rT.cell (i := 3) (by omega)
                have l3 := rL.cell (i := 3) (by omega)
                have n4 := rT.cell (i := 4) (by omega)
                have l4 := rL.cell (i := 4) (by omega)
                have n5 := rT.cell (i := 5) (by omega)
                have l5 := rL.cell (i := 5) (by omega)
                have n6 := rT.cell (i := 6) (by omega)
                have l6 := rL.cell (i := 6) (by omega)
                have n7 := rT.cell (i := 7) (by omega)
                have l7 := rL.cell (i := 7) (by omega)
                have fL := rL.frozen
                clear H3 hbT
                go_upto_region 13 with fail
                go_still_tail 5, (by kernel_rfl)
                go_wp2_with fail
                go_roundw
                case rel =>
                  have HB := below_store8 (Below.refl W.heap.size wc) (Nat.le_refl W.heap.size) (.int .i64 (stR m m.phi m.whi (k + 1) 0)) (.int .i64 (stR m m.phi m.whi (k + 1) 1)) (.int .i64 (stR m m.phi m.whi (k + 1) 2)) (.int .i64 (stR m m.phi m.whi (k + 1) 3)) (.int .i64 (stR m m.phi m.whi (k + 1) 4)) (.int .i64 (stR m m.phi m.whi (k + 1) 5)) (.int .i64 (stR m m.phi m.whi (k + 1) 6)) (.int .i64 (stR m m.phi m.whi (k + 1) 7))
                  exact ⟨_, k + 1, rfl, by go_num, by omega, Lib.hid ⟨HJ.out (k + 1) wc _ H4.out.1 HB.drew, H4.out.2.1.belowN HB.drew HL.out.1, (HB.drew.cell (p := ⟨B2, 0, none⟩) HL.out.2).trans H4.out.2.2.1, (rL.store8 (stR m m.phi m.whi (k + 1))).drew, Nat.le_trans H4.out.2.2.2.2 HB.drew.size, fun hs => st_still HO.out (same8_iff hs)⟩⟩
                case measure => simp [intOf]; omega
          · have HX := Lib.hid hJx3
            clear hJx3 HI HRR hy l0 l1 l2 l3 l4 l5 l6 l7
            go_wp2_with fail
            refine bodyPost_ret (results_none rfl _ _ _) rfl ?_
            exact ⟨⟨_, rfl⟩, .inr ⟨k + 1, by omega, by omega, HX.out⟩⟩
        · obtain rfl : k = 601 := by omega
          have HX := Lib.hid HI.out.1
          clear HI hlt
          go_wp2_with fail
          go_end0
          exact ⟨⟨_, rfl⟩, .inl HX.out⟩

end Go.Proofs.YtcncmlpppabbcaaGreat
