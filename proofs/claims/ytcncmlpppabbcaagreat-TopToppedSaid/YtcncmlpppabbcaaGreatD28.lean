/- The walk of mould's Hollow: how deep the hollow can be in the end, and what toppings pour. -/
import Derived.Test.YtcncmlpppabbcaaGreatD24
import Derived.Test.YtcncmlpppabbcaaGreatD25
import Derived.Test.YtcncmlpppabbcaaGreatD13
import Derived.Test.YtcncmlpppabbcaaGreatD15
import Derived.Test.YtcncmlpppabbcaaGreatD2
import Derived.Test.YtcncmlpppabbcaaGreatD18
import Derived.BigQuiet
namespace Go.Proofs.YtcncmlpppabbcaaGreat
set_option linter.unusedVariables false
set_option linter.unusedSimpArgs false
open Go.RowKit
attribute [local go_sem] Oper.semAt_some

/-- What Hollow says if a mould or a plan is none. -/
def zero4 : Value := .agg #[.int .i64 0, .int .i64 0, .int .i64 0, .int .i64 0]

set_option maxRecDepth 100000 in
set_option maxHeartbeats 1000000 in
theorem hollow_no (m : Mo) (v : Value) (w : World) (h : chkM m ≠ 0) : Calls Tryz.prog 4 #[.agg m.cells, v] w fun e w' => e = .returned (.tuple #[zero4, .int .i64 (chkM m)]) ∧ Below w.heap.size w w' := by
  have HH := Lib.hid h
  have hb0 : (chkM m != 0) = true := by simpa using h
  have op := fun w => open_no m w h
  have HB := Lib.hid (below_alloc2 w (.cells m.cells 25) (.cells #[.int .i64 0, .int .i64 0, .int .i64 0, .int .i64 0] 34))
  have HE := Lib.hid (heap_alloc_new (w.alloc (.cells m.cells 25)) (.cells #[.int .i64 0, .int .i64 0, .int .i64 0, .int .i64 0] 34))
  unfold Mo.cells tmCells noMo at op
  have OP := Lib.hid op
  clear h op
  unfold Mo.cells at HB HE
  unfold Mo.cells
  go_enter Tryz.func4, Tryz.ntmps4
  go_upto_region 2 with (go_at_call 15; refine (OP.out _).mono ?_; rintro e w1 ⟨rfl, hb⟩)
  have hE : w1.heap[w.heap.size + 1]? = some (.cells #[.int .i64 0, .int .i64 0, .int .i64 0, .int .i64 0] 34 (0, 0)) := by
    have h1 := HE.out
    rw [show (w.alloc (.cells #[.int .i64 m.rings, .int .i64 m.give, .int .i64 m.plo, .int .i64 m.phi, .int .i64 m.wlo, .int .i64 m.whi, .int .i64 m.set, .int .i64 m.shrink, .int .i64 m.skin, .int .i64 m.fill, .int .i64 m.gap, .int .i64 m.deep] 25)).heap.size = w.heap.size + 1 by simp] at h1
    exact (hb.block _ (by simp)).trans h1
  have l1 : w.heap.size + 1 < w1.heap.size := (Array.getElem?_eq_some_iff.1 hE).1
  have hA := below_alloc1 w1 (.cells #[.int .i64 0, .int .i64 0, .int .i64 0, .int .i64 0, .int .i64 0, .int .i64 0, .int .i64 0, .int .i64 0, .int .i64 0, .int .i64 0, .int .i64 0, .int .i64 0, .slice none 0 0, .slice none 0 0] 63)
  have hE2 := (hA.block _ l1).trans hE
  have HB2 := Lib.hid (belT (belT HB.out hb) hA)
  generalize w1.heap.size = T at *
  generalize (w1.alloc (.cells #[.int .i64 0, .int .i64 0, .int .i64 0, .int .i64 0, .int .i64 0, .int .i64 0, .int .i64 0, .int .i64 0, .int .i64 0, .int .i64 0, .int .i64 0, .int .i64 0, .slice none 0 0, .slice none 0 0] 63)) = W2 at *
  have c0 : W2.cell? ⟨w.heap.size + 1, 0, none⟩ = some (.int .i64 0) := cell_of_row W2 _ 0 _ 34 (0, 0) hE2
  have c1 : W2.cell? ⟨w.heap.size + 1, 1, none⟩ = some (.int .i64 0) := cell_of_row W2 _ 1 _ 34 (0, 0) hE2
  have c2 : W2.cell? ⟨w.heap.size + 1, 2, none⟩ = some (.int .i64 0) := cell_of_row W2 _ 2 _ 34 (0, 0) hE2
  have c3 : W2.cell? ⟨w.heap.size + 1, 3, none⟩ = some (.int .i64 0) := cell_of_row W2 _ 3 _ 34 (0, 0) hE2
  have fz : ∀ o, W2.frozen? ⟨w.heap.size + 1, o, none⟩ = false := fun o => frozen_of_row hE2
  have HE2 := Lib.hid hE2
  clear hE2 hE hA hb HE HB
  go_wp2_with fail
  refine bodyPost_ret (results_two34 rfl _ (.int .i64 (chkM m)) rfl rfl (row4 HE2.out _ _ _ _)) rfl ⟨rfl, below4 HB2.out (Nat.le_succ _) _ _ _ _⟩

/-- A place of a plan is good. -/
def planP (m : Mo) (plan : List Int) (i : Nat) : Prop := (0 ≤ plan.getD i 0 ∧ plan.getD i 0 ≤ 600) ∧ (0 < i → m.gap ≤ plan.getD i 0 - plan.getD (i - 1) 0)
/-- Hollow goes through. -/
def hollowP (m : Mo) (plan : List Int) : Prop :=
  plan.length ≤ 40 ∧ (∀ i, i < plan.length → planP m plan i) ∧ maxTo (whenL m m.phi m.whi) (m.rings.toNat - 1) ≠ 601 ∧ plan.any (overB m (whenL m m.plo m.wlo)) = false
/-- What it says then. -/
def endV (m : Mo) (zs plan : List Int) : Int × Int := ((snk m zs 601 (endTo m zs m.rings.toNat plan plan.length).1 (endTo m zs m.rings.toNat plan plan.length).2.1 m.rings.toNat).2, (endTo m zs m.rings.toNat plan plan.length).2.2)
def hollowV (m : Mo) (plan : List Int) : Value :=
  .agg #[.int .i64 (endV m (whenL m m.plo m.wlo) plan).1, .int .i64 (endV m (whenL m m.phi m.whi) plan).1, .int .i64 (endV m (whenL m m.phi m.whi) plan).2, .int .i64 (endV m (whenL m m.plo m.wlo) plan).2]

set_option maxRecDepth 100000 in
set_option maxHeartbeats 4000000 in
theorem hollow_ok (m : Mo) (h : chkM m = 0) (plan : List Int) (v : Value) (w : World) (hp : Rd w 1 v (ints plan)) : Calls Tryz.prog 4 #[.agg m.cells, v] w fun e w' =>
    ((hollowP m plan ∧ e = .returned (.tuple #[hollowV m plan, .int .i64 0])) ∨ (¬ hollowP m plan ∧ ∃ c : Int, c ≠ 0 ∧ e = .returned (.tuple #[zero4, .int .i64 c]))) ∧ Below w.heap.size w w' := by
  have hm := chkM_ok h
  have op := fun w => open_ok m w h
  have H0 : Hid (hollowP m plan ↔ plan.length ≤ 40 ∧ (∀ i, i < plan.length → planP m plan i) ∧ maxTo (whenL m m.phi m.whi) (m.rings.toNat - 1) ≠ 601 ∧ plan.any (overB m (whenL m m.plo m.wlo)) = false) := Lib.hid Iff.rfl
  have HV : Hid (hollowV m plan = .agg #[.int .i64 (snk m (whenL m m.plo m.wlo) 601 (endTo m (whenL m m.plo m.wlo) m.rings.toNat plan plan.length).1 (endTo m (whenL m m.plo m.wlo) m.rings.toNat plan plan.length).2.1 m.rings.toNat).2,
    .int .i64 (snk m (whenL m m.phi m.whi) 601 (endTo m (whenL m m.phi m.whi) m.rings.toNat plan plan.length).1 (endTo m (whenL m m.phi m.whi) m.rings.toNat plan plan.length).2.1 m.rings.toNat).2,
    .int .i64 (endTo m (whenL m m.phi m.whi) m.rings.toNat plan plan.length).2.2, .int .i64 (endTo m (whenL m m.plo m.wlo) m.rings.toNat plan plan.length).2.2]) := Lib.hid rfl
  have hlc := whenL_length m m.plo m.wlo
  have hlh := whenL_length m m.phi m.whi
  have hwc : whenL m m.plo m.wlo = (List.range m.rings.toNat).map (whenF m m.plo m.wlo) := rfl
  have hwh : whenL m m.phi m.whi = (List.range m.rings.toNat).map (whenF m m.phi m.whi) := rfl
  have hrn : (m.rings.toNat : Int) = m.rings := by have := hm.rings; omega
  have r1 : 1 ≤ m.rings.toNat := by have := hm.rings; omega
  have r8 : m.rings.toNat ≤ 8 := by have := hm.rings; omega
  generalize whenL m m.plo m.wlo = cs at *
  generalize whenL m m.phi m.whi = hs at *
  generalize m.rings.toNat = rn at *
  have en1 := fun (hlen : plan.length ≤ 40) (W : World) (v pv fv lv : Value) (f1 : fv.oneCell' = true) (f2 : lv.oneCell' = true) (f3 : fv.cells = #[fv]) (f4 : lv.cells = #[lv]) (h1 : Rd W 1 v (ints cs)) (h2 : Rd W 1 pv (ints plan)) => end_any m hm rn hrn cs plan hlc hlen fv lv v pv W f1 f2 f3 f4 h1 h2
  have en2 := fun (hlen : plan.length ≤ 40) (W : World) (v pv fv lv : Value) (f1 : fv.oneCell' = true) (f2 : lv.oneCell' = true) (f3 : fv.cells = #[fv]) (f4 : lv.cells = #[lv]) (h1 : Rd W 1 v (ints hs)) (h2 : Rd W 1 pv (ints plan)) => end_any m hm rn hrn hs plan hlh hlen fv lv v pv W f1 f2 f3 f4 h1 h2
  generalize (snk m cs 601 (endTo m cs rn plan plan.length).1 (endTo m cs rn plan plan.length).2.1 rn).2 = X1 at *
  generalize (snk m hs 601 (endTo m hs rn plan plan.length).1 (endTo m hs rn plan plan.length).2.1 rn).2 = X2 at *
  generalize (endTo m cs rn plan plan.length).2.2 = Y1 at *
  generalize (endTo m hs rn plan plan.length).2.2 = Y2 at *
  unfold tmCells at en1 en2
  have EN1 := Lib.hid en1
  have EN2 := Lib.hid en2
  clear en1 en2
  have HRN := Lib.hid hrn
  have HM := Lib.hid hm
  have HP := Lib.hid hp
  have HW := Lib.hid (And.intro hwc hwh)
  have HL := Lib.hid (And.intro hlc hlh)
  obtain ⟨a, c, rfl, -, hmx, hq⟩ := hp.ints
  have HQ := Lib.hid hq
  have HB := Lib.hid (below_alloc2 w (.cells m.cells 25) (.cells #[.int .i64 0, .int .i64 0, .int .i64 0, .int .i64 0] 34))
  have HE := Lib.hid (heap_alloc_new (w.alloc (.cells m.cells 25)) (.cells #[.int .i64 0, .int .i64 0, .int .i64 0, .int .i64 0] 34))
  unfold Mo.cells tmCells at op
  have OP := Lib.hid op
  clear h op hm hp hq hrn hwc hwh hlc hlh
  unfold Mo.cells at HB HE
  unfold Mo.cells
  go_enter Tryz.func4, Tryz.ntmps4
  go_upto_region 2 with (go_at_call 15; refine (OP.out _).mono ?_; rintro e w1 ⟨L1, L2, rfl, hI1, hI2, hb⟩)
  have hE : w1.heap[w.heap.size + 1]? = some (.cells #[.int .i64 0, .int .i64 0, .int .i64 0, .int .i64 0] 34 (0, 0)) := by
    have h1 := HE.out
    rw [show (w.alloc (.cells #[.int .i64 m.rings, .int .i64 m.give, .int .i64 m.plo, .int .i64 m.phi, .int .i64 m.wlo, .int .i64 m.whi, .int .i64 m.set, .int .i64 m.shrink, .int .i64 m.skin, .int .i64 m.fill, .int .i64 m.gap, .int .i64 m.deep] 25)).heap.size = w.heap.size + 1 by simp] at h1
    exact (hb.block _ (by simp)).trans h1
  have l1 : w.heap.size + 1 < w1.heap.size := (Array.getElem?_eq_some_iff.1 hE).1
  have hA := below_alloc1 w1 (.cells (tmCells m (.slice (some ⟨L1, 0, none⟩) rn rn) (.slice (some ⟨L2, 0, none⟩) rn rn)) 63)
  have hT := TmAt.new w1 m (.slice (some ⟨L1, 0, none⟩) rn rn) (.slice (some ⟨L2, 0, none⟩) rn rn)
  have hE2 := (hA.block _ l1).trans hE
  have hB2 := belT (belT HB.out hb) hA
  have hJ1 := hI1.same (hA.block L1 hI1.lt)
  have hJ2 := hI2.same (hA.block L2 hI2.lt)
  change Code.wp _ _ _ _ (w1.alloc (.cells (tmCells m (.slice (some ⟨L1, 0, none⟩) rn rn) (.slice (some ⟨L2, 0, none⟩) rn rn)) 63))
  generalize w1.heap.size = T at *
  generalize (w1.alloc (.cells (tmCells m (.slice (some ⟨L1, 0, none⟩) rn rn) (.slice (some ⟨L2, 0, none⟩) rn rn)) 63)) = W2 at *
  clear hb hI1 hI2 hA hE HE HB OP
  have HJ := Lib.hid (And.intro hJ1 hJ2)
  have hR1 := hJ1.rd (by omega)
  have hR2 := hJ2.rd (by omega)
  rw [← HW.out.1] at hR1
  rw [← HW.out.2] at hR2
  have HT := Lib.hid hT
  have HE2 := Lib.hid hE2
  have HB2 := Lib.hid hB2
  have HR := Lib.hid (And.intro hR1 hR2)
  clear hJ1 hJ2 hR1 hR2 hT hB2
  have hz : ∀ W, Below W2.heap.size W2 W → Hid (∀ o v, (#[.int .i64 0, .int .i64 0, .int .i64 0, .int .i64 0] : Array Value)[o]? = some v → W.cell? ⟨w.heap.size + 1, o, none⟩ = some v) := fun W hb => Lib.hid fun o v hv => keep hb ((cell_of_row W2 _ o _ 34 (0, 0) hE2).trans hv)
  have hf : ∀ W, Below W2.heap.size W2 W → Hid (∀ o, W.frozen? ⟨w.heap.size + 1, o, none⟩ = false) := fun W hb => Lib.hid fun o => keepF hb (Array.getElem?_eq_some_iff.1 hE2).1 (frozen_of_row hE2)
  have HZ := Lib.hid hz
  have HF := Lib.hid hf
  have HH2 := Lib.hid fun W (hb : Below W2.heap.size W2 W) => (hb.block _ (Array.getElem?_eq_some_iff.1 hE2).1).trans hE2
  clear hE2 hz hf
  by_cases hlen : plan.length ≤ 40
  · have hlen' : (plan.length : Int) ≤ 40 := by omega
    go_wp2_with fail
    go_loopw [26] (fun i wr => ∃ k : Nat, k ≤ plan.length ∧ i = .int .i64 k ∧ Hid (Below W2.heap.size W2 wr) ∧ Hid (∀ j, j < k → planP m plan j)) (fun i _ => plan.length - (intOf i).toNat)
    case atStart => exact ⟨0, Nat.zero_le _, rfl, Lib.hid (Below.refl _ _), Lib.hid fun j hj => absurd hj (Nat.not_lt_zero _)⟩
    case round =>
      obtain ⟨k, hk, rfl, hB, A⟩ := hrel
      by_cases hlt : k < plan.length
      · have hlt' : (k : Int) < plan.length := by omega
        obtain ⟨b, off, rfl, hb, hc⟩ := HQ.out (by omega)
        have hc2 : ∀ W, Below wr.heap.size wr W → ∀ j, j < plan.length → W.cell? ⟨b, off + j, none⟩ = some (.int .i64 (plan.getD j 0)) := fun W hbW j hj => by
          rw [(belT (belT HB2.out hB.out) hbW).cell (p := ⟨b, _, none⟩) hb, hc j hj]
          simp [List.getD, hj]
        have HC := Lib.hid hc2
        clear hc hc2
        have g1 := HC.out wr (Below.refl _ _) k hlt
        obtain ⟨z, hz⟩ : ∃ z, plan.getD k 0 = z := ⟨_, rfl⟩
        rw [hz] at g1
        have HZZ := Lib.hid hz
        clear hz
        by_cases hr : 0 ≤ z ∧ z ≤ 600
        · have ho : anyOut 0 600 [z] = false := by simp [anyOut, outB]; omega
          have HO := Lib.hid ho
          have HRR := Lib.hid hr
          clear ho hr
          go_wp2_with (go_at_call 16; refine (outM1 0 600 z _ _ rfl).mono ?_; rw [HO.out]; rintro e w3 ⟨rfl, hb3⟩)
          have HB3 := Lib.hid (belT hB.out hb3)
          have HC3 := Lib.hid (HC.out w3 hb3)
          clear hb3 hB g1
          have gp := HM.out.gap
          rcases Nat.eq_zero_or_pos k with hk0 | hk0
          · subst hk0
            have q0 : decide ((0 : Int) < ((0 : Nat) : Int)) = false := by decide
            go_quiet (fail)
            have hbq := below_drewN HB3.out nq
            have HBQ := Lib.hid hbq
            clear hbq
            go_wp2_with fail
            go_roundw
            case rel =>
              refine ⟨0 + 1, by omega, by go_num, HBQ, Lib.hid fun j hj => ?_⟩
              obtain rfl : j = 0 := by omega
              exact ⟨by rw [HZZ.out]; exact HRR.out, fun q => absurd q (Nat.lt_irrefl _)⟩
            case measure => simp [intOf]; omega
          · obtain ⟨j, rfl⟩ : ∃ j, k = j + 1 := ⟨k - 1, by omega⟩
            have g0 := HC3.out (j + 1) hlt
            rw [HZZ.out] at g0
            have g1 := HC3.out j (by omega)
            obtain ⟨z1, hz1⟩ : ∃ z, plan.getD j 0 = z := ⟨_, rfl⟩
            rw [hz1] at g1
            have hp1 := (A.out j (by omega)).1
            rw [hz1] at hp1
            have HZ1 := Lib.hid hz1
            clear hz1
            obtain ⟨r1', r2'⟩ := HRR.out
            have c10 := (HT.out.below HB3.out).mo.c10
            have n4 : decide ((0 : Int) < ((j + 1 : Nat) : Int)) = true := decide_eq_true (by omega)
            have n5 : ((j + 1 : Nat) : Int) - 1 = j := by omega
            have n7 : wrap64 (((j + 1 : Nat) : Int) - 1) = j := by rw [n5]; simp only [wrap64]; omega
            have n6 : (j : Int) < plan.length := by omega
            have e1 : wrap64 (z - z1) = z - z1 := by simp only [wrap64]; omega
            by_cases hg : m.gap ≤ z - z1
            · have hd : decide (z - z1 < m.gap) = false := decide_eq_false (by omega)
              go_quiet (fail)
              have HBQ := Lib.hid (below_drewN HB3.out nq)
              go_wp2_with fail
              go_roundw
              case rel =>
                refine ⟨j + 1 + 1, by omega, by go_num, HBQ, Lib.hid fun i hi => ?_⟩
                by_cases e : i = j + 1
                · subst e
                  exact ⟨by rw [HZZ.out]; exact HRR.out, fun _ => by rw [HZZ.out, show j + 1 - 1 = j from rfl, HZ1.out]; exact hg⟩
                · exact A.out i (by omega)
              case measure => simp [intOf]; omega
            · have hd : decide (z - z1 < m.gap) = true := decide_eq_true (by omega)
              go_quiet (fail)
              have hbq := below_drewN HB3.out nq
              have c0 := (HZ.out _ hbq).out 0 _ rfl
              have c1 := (HZ.out _ hbq).out 1 _ rfl
              have c2 := (HZ.out _ hbq).out 2 _ rfl
              have c3 := (HZ.out _ hbq).out 3 _ rfl
              have fz := (HF.out _ hbq).out
              have HN : Hid (¬ hollowP m plan) := Lib.hid fun q => hg (by have := ((H0.out.1 q).2.1 (j + 1) hlt).2 (by omega); rw [HZZ.out, show j + 1 - 1 = j from rfl, HZ1.out] at this; exact this)
              go_wp2_with fail
              refine bodyPost_ret (results_two34 rfl _ (.int .i64 2) rfl rfl (row4 (HH2.out _ hbq) _ _ _ _)) rfl ⟨.inr ⟨HN.out, 2, by decide, rfl⟩, below4 (belT HB2.out hbq) (Nat.le_succ _) _ _ _ _⟩
        · have ho : anyOut 0 600 [z] = true := by simp [anyOut, outB]; omega
          have HO := Lib.hid ho
          clear ho
          have HG := Lib.hid hr
          clear hr
          go_upto_region 10 with (go_at_call 16; refine (outM1 0 600 z _ _ rfl).mono ?_; rw [HO.out]; rintro e w3 ⟨rfl, hb3⟩)
          have hbq := belT hB.out hb3
          have c0 := (HZ.out _ hbq).out 0 _ rfl
          have c1 := (HZ.out _ hbq).out 1 _ rfl
          have c2 := (HZ.out _ hbq).out 2 _ rfl
          have c3 := (HZ.out _ hbq).out 3 _ rfl
          have fz := (HF.out _ hbq).out
          have HN : Hid (¬ hollowP m plan) := Lib.hid fun q => HG.out (by have := ((H0.out.1 q).2.1 k hlt).1; rw [HZZ.out] at this; exact this)
          go_wp2_with fail
          refine bodyPost_ret (results_two34 rfl _ (.int .i64 7) rfl rfl (row4 (HH2.out _ hbq) _ _ _ _)) rfl ⟨.inr ⟨HN.out, 7, by decide, rfl⟩, below4 (belT HB2.out hbq) (Nat.le_succ _) _ _ _ _⟩
      · obtain rfl : k = plan.length := by omega
        have hb0 := hB.out
        have c13 : wr.cell? ⟨T, 13, none⟩ = some (.slice (some ⟨L2, 0, none⟩) rn rn) := (HT.out.below hB.out).cell 13
        have c12 : wr.cell? ⟨T, 12, none⟩ = some (.slice (some ⟨L1, 0, none⟩) rn rn) := (HT.out.below hB.out).cell 12
        have hmax := max_any _ hs wr (HR.out.2.below hB.out) (by rw [HL.out.2]; omega)
        rw [HL.out.2] at hmax
        have HMX := Lib.hid hmax
        have HCO := Lib.hid (containsO_any m T _ _ cs plan wr (HR.out.1.below hB.out) (HT.out.below hB.out).mo c12 (HP.out.below (belT HB2.out hB.out)))
        clear hmax c12
        by_cases h6 : maxTo hs (rn - 1) = 601
        · have t1 : (maxTo hs (rn - 1) == 601) = true := by rw [beq_iff_eq]; exact h6
          have H6 := Lib.hid h6
          clear h6
          go_upto_region 15 with (go_at_call 17; refine HMX.out.mono ?_; rintro e w' ⟨rfl, rfl⟩)
          have c0 := (HZ.out _ hb0).out 0 _ rfl
          have c1 := (HZ.out _ hb0).out 1 _ rfl
          have c2 := (HZ.out _ hb0).out 2 _ rfl
          have c3 := (HZ.out _ hb0).out 3 _ rfl
          have fz := (HF.out _ hb0).out
          have HN : Hid (¬ hollowP m plan) := Lib.hid fun q => (H0.out.1 q).2.2.1 H6.out
          go_wp2_with fail
          refine bodyPost_ret (results_two34 rfl _ (.int .i64 9) rfl rfl (row4 (HH2.out _ hb0) _ _ _ _)) rfl ⟨.inr ⟨HN.out, 9, by decide, rfl⟩, below4 (belT HB2.out hb0) (Nat.le_succ _) _ _ _ _⟩
        · have t1 : (maxTo hs (rn - 1) == 601) = false := by rw [beq_eq_false_iff_ne]; exact h6
          have H6 := Lib.hid h6
          clear h6
          cases hany : plan.any (overB m cs) with
          | true =>
            have HA := Lib.hid hany
            clear hany
            rw [HA.out] at HCO
            go_upto_region 15 with (first | (go_at_call 17; refine HMX.out.mono ?_; rintro e w' ⟨rfl, rfl⟩) | (go_at_call 18; refine HCO.out.mono ?_; rintro e w4 ⟨rfl, hb4⟩))
            have hbq := belT hB.out hb4
            have c0 := (HZ.out _ hbq).out 0 _ rfl
            have c1 := (HZ.out _ hbq).out 1 _ rfl
            have c2 := (HZ.out _ hbq).out 2 _ rfl
            have c3 := (HZ.out _ hbq).out 3 _ rfl
            have fz := (HF.out _ hbq).out
            have HN : Hid (¬ hollowP m plan) := Lib.hid fun q => absurd (HA.out.symm.trans (H0.out.1 q).2.2.2) (by decide)
            go_wp2_with fail
            refine bodyPost_ret (results_two34 rfl _ (.int .i64 9) rfl rfl (row4 (HH2.out _ hbq) _ _ _ _)) rfl ⟨.inr ⟨HN.out, 9, by decide, rfl⟩, below4 (belT HB2.out hbq) (Nat.le_succ _) _ _ _ _⟩
          | false =>
            have HA := Lib.hid hany
            clear hany
            rw [HA.out] at HCO
            have HYES : Hid (hollowP m plan) := Lib.hid (H0.out.2 ⟨hlen, A.out, H6.out, HA.out⟩)
            go_upto_region 16 with (first | (go_at_call 17; refine HMX.out.mono ?_; rintro e w' ⟨rfl, rfl⟩) | (go_at_call 18; refine HCO.out.mono ?_; rintro e w4 ⟨rfl, hb4⟩))
            clear hb0 c13 HMX HCO t1
            have hbq := belT hB.out hb4
            have hT4 := HT.out.below hbq
            have t0 : w4.cell? ⟨T, 0, none⟩ = some (.int .i64 m.rings) := hT4.cell 0
            have t1 : w4.cell? ⟨T, 1, none⟩ = some (.int .i64 m.give) := hT4.cell 1
            have t2 : w4.cell? ⟨T, 2, none⟩ = some (.int .i64 m.plo) := hT4.cell 2
            have t3 : w4.cell? ⟨T, 3, none⟩ = some (.int .i64 m.phi) := hT4.cell 3
            have t4 : w4.cell? ⟨T, 4, none⟩ = some (.int .i64 m.wlo) := hT4.cell 4
            have t5 : w4.cell? ⟨T, 5, none⟩ = some (.int .i64 m.whi) := hT4.cell 5
            have t6 : w4.cell? ⟨T, 6, none⟩ = some (.int .i64 m.set) := hT4.cell 6
            have t7 : w4.cell? ⟨T, 7, none⟩ = some (.int .i64 m.shrink) := hT4.cell 7
            have t8 : w4.cell? ⟨T, 8, none⟩ = some (.int .i64 m.skin) := hT4.cell 8
            have t9 : w4.cell? ⟨T, 9, none⟩ = some (.int .i64 m.fill) := hT4.cell 9
            have t10 : w4.cell? ⟨T, 10, none⟩ = some (.int .i64 m.gap) := hT4.cell 10
            have t11 : w4.cell? ⟨T, 11, none⟩ = some (.int .i64 m.deep) := hT4.cell 11
            have t12 : w4.cell? ⟨T, 12, none⟩ = some (.slice (some ⟨L1, 0, none⟩) rn rn) := hT4.cell 12
            have t13 : w4.cell? ⟨T, 13, none⟩ = some (.slice (some ⟨L2, 0, none⟩) rn rn) := hT4.cell 13
            have HE1 := Lib.hid (EN1.out hlen w4 _ _ (.slice (some ⟨L1, 0, none⟩) rn rn) (.slice (some ⟨L2, 0, none⟩) rn rn) rfl rfl rfl rfl (HR.out.1.below hbq) (HP.out.below (belT HB2.out hbq)))
            have HBQ := Lib.hid hbq
            clear hT4 hbq hb4
            go_upto_region 17 with (go_at_call 21; refine HE1.out.mono ?_; rintro e w5 ⟨rfl, hb5⟩; have hb6 := belT HBQ.out hb5; have c0 := (HZ.out _ hb6).out 0 _ rfl; have c1 := (HZ.out _ hb6).out 1 _ rfl; have c2 := (HZ.out _ hb6).out 2 _ rfl; have c3 := (HZ.out _ hb6).out 3 _ rfl; have fz := (HF.out _ hb6).out)
            clear t0 t1 t2 t3 t4 t5 t6 t7 t8 t9 t10 t11 t12 t13 c0 c1 c2 c3 fz HE1
            have hrow : w5.heap[w.heap.size + 1]? = some (.cells [.int .i64 0, .int .i64 0, .int .i64 0, .int .i64 0].toArray 34 (0, 0)) := HH2.out _ hb6
            have hrow5 := row_setG (row_setG hrow 0 (.int .i64 X1)) 3 (.int .i64 Y1)
            have hT5' := HT.out.below hb6
            have hJ5' := HJ.out.2.same (hb6.block L2 HJ.out.2.lt)
            have n1 : w.heap.size + 1 ≠ L2 := fun e => by
              have h := HJ.out.2
              unfold InAt at h
              rw [← e, HE2.out] at h
              simp at h
            have n2 : w.heap.size + 1 ≠ T := by omega
            have hT5 := (hT5'.same (heap_setCell_ne (o := 0) (v := .int .i64 X1) n2)).same (heap_setCell_ne (o := 3) (v := .int .i64 Y1) n2)
            have hJ5 := (hJ5'.other (o := 0) (v := .int .i64 X1) n1).other (o := 3) (v := .int .i64 Y1) n1
            have hb5w := ((belT HB2.out hb6).setCell (p := ⟨w.heap.size + 1, 0, none⟩) (Nat.le_succ _) (.int .i64 X1)).setCell (p := ⟨w.heap.size + 1, 3, none⟩) (Nat.le_succ _) (.int .i64 Y1)
            generalize ((w5.setCell ⟨w.heap.size + 1, 0, none⟩ (.int .i64 X1)).setCell ⟨w.heap.size + 1, 3, none⟩ (.int .i64 Y1)) = W5 at *
            have hr5 := hJ5.rd (by omega)
            rw [← HW.out.2] at hr5
            have HE2' := Lib.hid (EN2.out hlen W5 _ _ (.slice (some ⟨L1, 0, none⟩) rn rn) (.slice (some ⟨L2, 0, none⟩) rn rn) rfl rfl rfl rfl hr5 (HP.out.below hb5w))
            have t0 : W5.cell? ⟨T, 0, none⟩ = some (.int .i64 m.rings) := hT5.cell 0
            have t1 : W5.cell? ⟨T, 1, none⟩ = some (.int .i64 m.give) := hT5.cell 1
            have t2 : W5.cell? ⟨T, 2, none⟩ = some (.int .i64 m.plo) := hT5.cell 2
            have t3 : W5.cell? ⟨T, 3, none⟩ = some (.int .i64 m.phi) := hT5.cell 3
            have t4 : W5.cell? ⟨T, 4, none⟩ = some (.int .i64 m.wlo) := hT5.cell 4
            have t5 : W5.cell? ⟨T, 5, none⟩ = some (.int .i64 m.whi) := hT5.cell 5
            have t6 : W5.cell? ⟨T, 6, none⟩ = some (.int .i64 m.set) := hT5.cell 6
            have t7 : W5.cell? ⟨T, 7, none⟩ = some (.int .i64 m.shrink) := hT5.cell 7
            have t8 : W5.cell? ⟨T, 8, none⟩ = some (.int .i64 m.skin) := hT5.cell 8
            have t9 : W5.cell? ⟨T, 9, none⟩ = some (.int .i64 m.fill) := hT5.cell 9
            have t10 : W5.cell? ⟨T, 10, none⟩ = some (.int .i64 m.gap) := hT5.cell 10
            have t11 : W5.cell? ⟨T, 11, none⟩ = some (.int .i64 m.deep) := hT5.cell 11
            have t12 : W5.cell? ⟨T, 12, none⟩ = some (.slice (some ⟨L1, 0, none⟩) rn rn) := hT5.cell 12
            have t13 : W5.cell? ⟨T, 13, none⟩ = some (.slice (some ⟨L2, 0, none⟩) rn rn) := hT5.cell 13
            have HB5W := Lib.hid hb5w
            have HROW := Lib.hid hrow5
            clear hr5 hb5w hJ5 hT5 hJ5' hT5' hrow hrow5 hb6 hb5
            go_upto_region 18 with (go_at_call 21; refine HE2'.out.mono ?_; rintro e w6 ⟨rfl, hb6⟩; have hrow6 := (hb6.block _ (Array.getElem?_eq_some_iff.1 HROW.out).1).trans HROW.out; have c0 : w6.cell? ⟨w.heap.size + 1, 0, none⟩ = some (.int .i64 X1) := cell_of_row w6 _ 0 _ 34 (0, 0) hrow6; have c1 : w6.cell? ⟨w.heap.size + 1, 1, none⟩ = some (.int .i64 0) := cell_of_row w6 _ 1 _ 34 (0, 0) hrow6; have c2 : w6.cell? ⟨w.heap.size + 1, 2, none⟩ = some (.int .i64 0) := cell_of_row w6 _ 2 _ 34 (0, 0) hrow6; have c3 : w6.cell? ⟨w.heap.size + 1, 3, none⟩ = some (.int .i64 Y1) := cell_of_row w6 _ 3 _ 34 (0, 0) hrow6; have fz : ∀ o, w6.frozen? ⟨w.heap.size + 1, o, none⟩ = false := fun o => frozen_of_row hrow6)
            have hrow7 := row_setG (row_setG hrow6 1 (.int .i64 X2)) 2 (.int .i64 Y2)
            have hb7 := ((belT HB5W.out hb6).setCell (p := ⟨w.heap.size + 1, 1, none⟩) (Nat.le_succ _) (.int .i64 X2)).setCell (p := ⟨w.heap.size + 1, 2, none⟩) (Nat.le_succ _) (.int .i64 Y2)
            clear c0 c1 c2 c3 fz t0 t1 t2 t3 t4 t5 t6 t7 t8 t9 t10 t11 t12 t13
            generalize ((w6.setCell ⟨w.heap.size + 1, 1, none⟩ (.int .i64 X2)).setCell ⟨w.heap.size + 1, 2, none⟩ (.int .i64 Y2)) = W7 at *
            have c0 : W7.cell? ⟨w.heap.size + 1, 0, none⟩ = some (.int .i64 X1) := cell_of_row W7 _ 0 _ 34 (0, 0) hrow7
            have c1 : W7.cell? ⟨w.heap.size + 1, 1, none⟩ = some (.int .i64 X2) := cell_of_row W7 _ 1 _ 34 (0, 0) hrow7
            have c2 : W7.cell? ⟨w.heap.size + 1, 2, none⟩ = some (.int .i64 Y2) := cell_of_row W7 _ 2 _ 34 (0, 0) hrow7
            have c3 : W7.cell? ⟨w.heap.size + 1, 3, none⟩ = some (.int .i64 Y1) := cell_of_row W7 _ 3 _ 34 (0, 0) hrow7
            have fz : ∀ o, W7.frozen? ⟨w.heap.size + 1, o, none⟩ = false := fun o => frozen_of_row hrow7
            have HROW7 := Lib.hid hrow7
            clear hrow7 hrow6
            go_wp2_with fail
            refine bodyPost_ret (results_two34 rfl _ (.int .i64 0) rfl rfl (row4 HROW7.out _ _ _ _)) rfl ⟨.inl ⟨HYES.out, by rw [HV.out]⟩, below4 hb7 (Nat.le_succ _) _ _ _ _⟩
  · have hlen' : (40 : Int) < plan.length := by omega
    have hb0 := Below.refl W2.heap.size W2
    have c0 := (HZ.out _ hb0).out 0 _ rfl
    have c1 := (HZ.out _ hb0).out 1 _ rfl
    have c2 := (HZ.out _ hb0).out 2 _ rfl
    have c3 := (HZ.out _ hb0).out 3 _ rfl
    have fz := (HF.out _ hb0).out
    have HN : Hid (¬ hollowP m plan) := Lib.hid fun q => hlen (H0.out.1 q).1
    go_wp2_with fail
    refine bodyPost_ret (results_two34 rfl _ (.int .i64 3) rfl rfl (row4 (HH2.out _ hb0) _ _ _ _)) rfl ⟨.inr ⟨HN.out, 3, by decide, rfl⟩, below4 HB2.out (Nat.le_succ _) _ _ _ _⟩

end Go.Proofs.YtcncmlpppabbcaaGreat
