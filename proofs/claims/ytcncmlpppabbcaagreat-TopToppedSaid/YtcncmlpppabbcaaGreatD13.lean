/- The walk of mould's end: the hollow in the end, and what toppings pour. -/
import Derived.Test.YtcncmlpppabbcaaGreatD12
import Derived.Test.YtcncmlpppabbcaaGreatD10
namespace Go.Proofs.YtcncmlpppabbcaaGreat
set_option linter.unusedVariables false
set_option linter.unusedSimpArgs false
open Go.RowKit
attribute [local go_sem] Oper.semAt_some

/-- What stands behind some toppings: which rings have set, the hollow, what was poured. -/
def endTo (m : Mo) (zs : List Int) (n : Nat) (plan : List Int) : Nat → (Nat → Bool) × Int × Int
  | 0 => (fun _ => false, 0, 0)
  | k + 1 =>
    ((snk m zs (plan.getD k 0) (endTo m zs n plan k).1 (endTo m zs n plan k).2.1 n).1,
      (snk m zs (plan.getD k 0) (endTo m zs n plan k).1 (endTo m zs n plan k).2.1 n).2 - min m.fill (snk m zs (plan.getD k 0) (endTo m zs n plan k).1 (endTo m zs n plan k).2.1 n).2,
      (endTo m zs n plan k).2.2 + min m.fill (snk m zs (plan.getD k 0) (endTo m zs n plan k).1 (endTo m zs n plan k).2.1 n).2)
theorem endTo_bd {m : Mo} (hm : MoOk m) {n : Nat} (hn : (n : Int) = m.rings) (zs plan : List Int) : ∀ k : Nat,
    0 ≤ (endTo m zs n plan k).2.1 ∧ (endTo m zs n plan k).2.1 ≤ 24000 * k ∧ 0 ≤ (endTo m zs n plan k).2.2 ∧ (endTo m zs n plan k).2.2 ≤ 100000 * k
  | 0 => by simp [endTo]
  | k + 1 => by
    have ih := endTo_bd hm hn zs plan k
    have hb := snk_bd hm zs (plan.getD k 0) (endTo m zs n plan k).1 (endTo m zs n plan k).2.1 n (by omega)
    have hr := hm.rings
    have hf := hm.fill
    unfold endTo
    generalize (snk m zs (plan.getD k 0) (endTo m zs n plan k).1 (endTo m zs n plan k).2.1 n) = s at *
    simp only
    push_cast
    omega

/-- What a value of 'times' holds. -/
def tmCells (m : Mo) (fv lv : Value) : Array Value := #[.int .i64 m.rings, .int .i64 m.give, .int .i64 m.plo, .int .i64 m.phi, .int .i64 m.wlo, .int .i64 m.whi, .int .i64 m.set, .int .i64 m.shrink, .int .i64 m.skin, .int .i64 m.fill, .int .i64 m.gap, .int .i64 m.deep, fv, lv]
theorem tm_new (w : World) (m : Mo) (fv lv : Value) (t : TypeId) : MoAt (w.alloc (.cells (tmCells m fv lv) t)) w.heap.size m :=
  ⟨cell_new_lit w [_, _, _, _, _, _, _, _, _, _, _, _, _, _] t 0, cell_new_lit w [_, _, _, _, _, _, _, _, _, _, _, _, _, _] t 1, cell_new_lit w [_, _, _, _, _, _, _, _, _, _, _, _, _, _] t 2, cell_new_lit w [_, _, _, _, _, _, _, _, _, _, _, _, _, _] t 3, cell_new_lit w [_, _, _, _, _, _, _, _, _, _, _, _, _, _] t 4, cell_new_lit w [_, _, _, _, _, _, _, _, _, _, _, _, _, _] t 5, cell_new_lit w [_, _, _, _, _, _, _, _, _, _, _, _, _, _] t 6, cell_new_lit w [_, _, _, _, _, _, _, _, _, _, _, _, _, _] t 7, cell_new_lit w [_, _, _, _, _, _, _, _, _, _, _, _, _, _] t 8, cell_new_lit w [_, _, _, _, _, _, _, _, _, _, _, _, _, _] t 9, cell_new_lit w [_, _, _, _, _, _, _, _, _, _, _, _, _, _] t 10, cell_new_lit w [_, _, _, _, _, _, _, _, _, _, _, _, _, _] t 11⟩

theorem Rd.same {S : Nat → Prop} {w W w' : World} {k : Nat} {v : Value} {rows : List (List Value)} (h : Rd w k v rows) (hb : Below w.heap.size w W) (hs : SameAt S W w') (hS : ∀ b, b < w.heap.size → S b) : Rd w' k v rows := by
  obtain ⟨a, c, hv, hc, hm, hl, hr⟩ := h
  refine ⟨a, c, hv, hc, hm, hl, fun h0 => ?_⟩
  obtain ⟨b, off, ha, hlt, hcell⟩ := hr h0
  have hlt2 : b < W.heap.size := Nat.lt_of_lt_of_le hlt hb.size
  refine ⟨b, off, ha, Nat.lt_of_lt_of_le hlt2 hs.size, fun j r hj i x hi => ?_⟩
  rw [World.cell?_of_block (hs.block b (hS b hlt) hlt2), hb.cell (p := ⟨b, off + j * k + i, none⟩) hlt]
  exact hcell j r hj i x hi

theorem boRow_false (n : Nat) : List.replicate n (Value.bool false) = boRow n fun _ => false := by
  unfold boRow
  rw [List.map_const', List.length_range]

set_option maxRecDepth 100000 in
set_option maxHeartbeats 400000 in
theorem end_any (m : Mo) (hm : MoOk m) (n : Nat) (hn : (n : Int) = m.rings) (zs plan : List Int) (hz : zs.length = n) (hpl : plan.length ≤ 40) (fv lv v pv : Value) (w : World)
    (f1 : fv.oneCell' = true) (f2 : lv.oneCell' = true) (f3 : fv.cells = #[fv]) (f4 : lv.cells = #[lv]) (h : Rd w 1 v (ints zs)) (hp : Rd w 1 pv (ints plan)) :
    Calls Tryz.prog 21 #[.agg (tmCells m fv lv), v, pv] w fun e w' =>
      e = .returned (.tuple #[.int .i64 (snk m zs 601 (endTo m zs n plan plan.length).1 (endTo m zs n plan plan.length).2.1 n).2, .int .i64 (endTo m zs n plan plan.length).2.2]) ∧ Below w.heap.size w w' := by
  subst hz
  have n1 : 1 ≤ zs.length := by have := hm.rings; omega
  have n8 : zs.length ≤ 8 := by have := hm.rings; omega
  have HNN := Lib.hid hn
  have HO := Lib.hid hm
  clear hn
  have HR := Lib.hid h
  have HP := Lib.hid hp
  obtain ⟨a, c, rfl, hac, hmx, -⟩ := h.ints
  obtain ⟨a2, c2, rfl, hac2, hmx2, -⟩ := hp.ints
  have HM := Lib.hid (tm_new w m fv lv 63)
  unfold tmCells at HM
  clear hm h hp hac hac2
  unfold tmCells
  go_enter Tryz.func21, Tryz.ntmps21
  have k4 : Below w.heap.size w ((((w.alloc (.cells #[.int .i64 m.rings, .int .i64 m.give, .int .i64 m.plo, .int .i64 m.phi, .int .i64 m.wlo, .int .i64 m.whi, .int .i64 m.set, .int .i64 m.shrink, .int .i64 m.skin, .int .i64 m.fill, .int .i64 m.gap, .int .i64 m.deep, fv, lv] 63)).alloc (.cells #[.slice a zs.length c] 26)).alloc (.cells #[.int .i64 0] 3)).alloc (.cells #[.bool false] 4)) := ((((Below.refl _ _).alloc (Nat.le_refl _) _).alloc (by simp) _).alloc (by simp; omega) _).alloc (by simp; omega) _
  have s4 : ((((w.alloc (.cells #[.int .i64 m.rings, .int .i64 m.give, .int .i64 m.plo, .int .i64 m.phi, .int .i64 m.wlo, .int .i64 m.whi, .int .i64 m.set, .int .i64 m.shrink, .int .i64 m.skin, .int .i64 m.fill, .int .i64 m.gap, .int .i64 m.deep, fv, lv] 63)).alloc (.cells #[.slice a zs.length c] 26)).alloc (.cells #[.int .i64 0] 3)).alloc (.cells #[.bool false] 4)).heap.size = w.heap.size + 4 := by simp
  have m4 : MoAt ((((w.alloc (.cells #[.int .i64 m.rings, .int .i64 m.give, .int .i64 m.plo, .int .i64 m.phi, .int .i64 m.wlo, .int .i64 m.whi, .int .i64 m.set, .int .i64 m.shrink, .int .i64 m.skin, .int .i64 m.fill, .int .i64 m.gap, .int .i64 m.deep, fv, lv] 63)).alloc (.cells #[.slice a zs.length c] 26)).alloc (.cells #[.int .i64 0] 3)).alloc (.cells #[.bool false] 4)) w.heap.size m := ((HM.out.below (below_alloc1 _ _)).below (below_alloc1 _ _)).below (below_alloc1 _ _)
  have c4 : ((((w.alloc (.cells #[.int .i64 m.rings, .int .i64 m.give, .int .i64 m.plo, .int .i64 m.phi, .int .i64 m.wlo, .int .i64 m.whi, .int .i64 m.set, .int .i64 m.shrink, .int .i64 m.skin, .int .i64 m.fill, .int .i64 m.gap, .int .i64 m.deep, fv, lv] 63)).alloc (.cells #[.slice a zs.length c] 26)).alloc (.cells #[.int .i64 0] 3)).alloc (.cells #[.bool false] 4)).cell? ⟨w.heap.size + 1, 0, none⟩ = some (.slice a zs.length c) := by simp [go_sem]
  have h4 : ((((w.alloc (.cells #[.int .i64 m.rings, .int .i64 m.give, .int .i64 m.plo, .int .i64 m.phi, .int .i64 m.wlo, .int .i64 m.whi, .int .i64 m.set, .int .i64 m.shrink, .int .i64 m.skin, .int .i64 m.fill, .int .i64 m.gap, .int .i64 m.deep, fv, lv] 63)).alloc (.cells #[.slice a zs.length c] 26)).alloc (.cells #[.int .i64 0] 3)).alloc (.cells #[.bool false] 4)).cell? ⟨w.heap.size + 1 + 1, 0, none⟩ = some (.int .i64 0) := by simp [go_sem]
  have f4 : ((((w.alloc (.cells #[.int .i64 m.rings, .int .i64 m.give, .int .i64 m.plo, .int .i64 m.phi, .int .i64 m.wlo, .int .i64 m.whi, .int .i64 m.set, .int .i64 m.shrink, .int .i64 m.skin, .int .i64 m.fill, .int .i64 m.gap, .int .i64 m.deep, fv, lv] 63)).alloc (.cells #[.slice a zs.length c] 26)).alloc (.cells #[.int .i64 0] 3)).alloc (.cells #[.bool false] 4)).frozen? ⟨w.heap.size + 1 + 1, 0, none⟩ = false := by simp [go_sem]
  have b4 : ((((w.alloc (.cells #[.int .i64 m.rings, .int .i64 m.give, .int .i64 m.plo, .int .i64 m.phi, .int .i64 m.wlo, .int .i64 m.whi, .int .i64 m.set, .int .i64 m.shrink, .int .i64 m.skin, .int .i64 m.fill, .int .i64 m.gap, .int .i64 m.deep, fv, lv] 63)).alloc (.cells #[.slice a zs.length c] 26)).alloc (.cells #[.int .i64 0] 3)).alloc (.cells #[.bool false] 4)).cell? ⟨w.heap.size + 1 + 1 + 1, 0, none⟩ = some (.bool false) := by simp [go_sem]
  have HQ := Lib.hid (And.intro k4 (And.intro s4 (And.intro m4 (And.intro c4 (And.intro h4 (And.intro f4 b4))))))
  clear k4 s4 m4 c4 h4 f4 b4 HM
  go_upto_region 1 with fail
  go_wp2_with fail
  generalize ((((w.alloc (.cells #[.int .i64 m.rings, .int .i64 m.give, .int .i64 m.plo, .int .i64 m.phi, .int .i64 m.wlo, .int .i64 m.whi, .int .i64 m.set, .int .i64 m.shrink, .int .i64 m.skin, .int .i64 m.fill, .int .i64 m.gap, .int .i64 m.deep, fv, lv] 63)).alloc (.cells #[.slice a zs.length c] 26)).alloc (.cells #[.int .i64 0] 3)).alloc (.cells #[.bool false] 4)) = W4 at HQ ⊢
  refine (repeat62_any false zs.length (w.heap.size + 1 + 1 + 1) ⟨n1, n8⟩ _ HQ.out.2.2.2.2.2.2).mono ?_
  rintro e w1 ⟨L, rfl, hL, hblk, hb⟩
  have HL : Hid (w.heap.size + 4 ≤ L ∧ BoAt w1 L zs.length (fun _ => false) ∧ Below W4.heap.size W4 w1) := Lib.hid ⟨HQ.out.2.1 ▸ hL, by unfold BoAt; rw [← boRow_false]; exact hblk, hb⟩
  clear hL hblk hb
  go_wp2_with fail
  have L1 : L < w1.heap.size := HL.out.2.1.lt
  have L0 : w.heap.size + 4 ≤ L := HL.out.1
  have b15 : Below w1.heap.size w1 (w1.alloc (.cells #[.slice (some ⟨L, 0, none⟩) zs.length zs.length] 118)) := below_alloc1 _ _
  have b45 := belT HL.out.2.2 b15
  have k5 := belT HQ.out.1 b45
  have m5 := HQ.out.2.2.1.below b45
  have c5 := keep b45 HQ.out.2.2.2.1
  have h5 := keep b45 HQ.out.2.2.2.2.1
  have f5 := keepF b45 (by rw [HQ.out.2.1]; omega) HQ.out.2.2.2.2.2.1
  have d5 : BoAt (w1.alloc (.cells #[.slice (some ⟨L, 0, none⟩) zs.length zs.length] 118)) L zs.length (fun _ => false) := HL.out.2.1.same (b15.block L L1)
  have e5 : (w1.alloc (.cells #[.slice (some ⟨L, 0, none⟩) zs.length zs.length] 118)).cell? ⟨w1.heap.size, 0, none⟩ = some (.slice (some ⟨L, 0, none⟩) zs.length zs.length) := cell_new_lit w1 [_] 118 0
  have HV := Lib.hid (And.intro k5 (And.intro m5 (And.intro c5 (And.intro h5 (And.intro f5 (And.intro d5 e5))))))
  clear b15 b45 k5 m5 c5 h5 f5 d5 e5 HL HQ
  generalize (w1.alloc (.cells #[.slice (some ⟨L, 0, none⟩) zs.length zs.length] 118)) = W5 at HV ⊢
  generalize w1.heap.size = Bd at HV L1 ⊢
  have HE := Lib.hid (endTo_bd HO.out HNN.out zs plan)
  go_loopw [7, 20] (fun p i wr => ∃ k : Nat, k ≤ plan.length ∧ p = .int .i64 (endTo m zs zs.length plan k).2.2 ∧ i = .int .i64 k ∧ Hid (BoAt wr L zs.length (endTo m zs zs.length plan k).1 ∧
    wr.cell? ⟨w.heap.size + 1 + 1, 0, none⟩ = some (.int .i64 (endTo m zs zs.length plan k).2.1) ∧ wr.frozen? ⟨w.heap.size + 1 + 1, 0, none⟩ = false ∧
    SameAt (fun b => b ≠ L ∧ b ≠ w.heap.size + 1 + 1) W5 wr ∧ (∀ N, N ≤ L → N ≤ w.heap.size + 1 + 1 → Below N W5 wr))) (fun _ i _ => plan.length - (intOf i).toNat)
  case atStart => exact ⟨0, Nat.zero_le _, rfl, rfl, Lib.hid ⟨HV.out.2.2.2.2.2.1, HV.out.2.2.2.1, HV.out.2.2.2.2.1, SameAt.refl _ _, fun N _ _ => Below.refl N W5⟩⟩
  case round =>
    obtain ⟨k, hk, rfl, rfl, HI⟩ := hrel
    have SS := HI.out.2.2.2.1
    have c1 := SS.cell (b := w.heap.size + 1) ⟨by omega, by omega⟩ HV.out.2.2.1
    have c2 := SS.cell (b := Bd) ⟨by omega, by omega⟩ HV.out.2.2.2.2.2.2
    have c4 : MoAt wr w.heap.size m := by
      have hM := HV.out.2.1
      have hc : ∀ {o : Nat} {v : Value}, W5.cell? ⟨w.heap.size, o, none⟩ = some v → wr.cell? ⟨w.heap.size, o, none⟩ = some v := fun q => SS.cell (b := w.heap.size) ⟨by omega, by omega⟩ q
      exact ⟨hc hM.c0, hc hM.c1, hc hM.c2, hc hM.c3, hc hM.c4, hc hM.c5, hc hM.c6, hc hM.c7, hc hM.c8, hc hM.c9, hc hM.c10, hc hM.c11⟩
    have hrd : ∀ w', SameAt (fun b => b ≠ L ∧ b ≠ w.heap.size + 1 + 1) wr w' → Rd w' 1 (.slice a zs.length c) (ints zs) := fun w' q => HR.out.same HV.out.1 (SS.trans q) (fun b hb => ⟨by omega, by omega⟩)
    have bd := HE.out k
    have sink : ∀ t : Int, Calls Tryz.prog 63 #[.int .i64 t, .pointer (some ⟨w.heap.size + 1, 0, none⟩), .pointer (some ⟨Bd, 0, none⟩), .pointer (some ⟨w.heap.size + 1 + 1, 0, none⟩), .pointer (some ⟨w.heap.size, 0, none⟩)] wr _ :=
      fun t => sink_any m HO.out t zs.length (w.heap.size + 1) Bd (w.heap.size + 1 + 1) w.heap.size L _ zs _ _ wr HNN.out rfl ⟨by omega, by omega⟩ c1 hrd c2 HI.out.2.1 HI.out.2.2.1 c4 HI.out.1 (by omega) ⟨by omega, by omega⟩ ⟨by omega, by omega⟩ ⟨by omega, by omega⟩
    have HS := Lib.hid sink
    have HM := Lib.hid (And.intro c4 (And.intro SS hrd))
    clear sink c1 c2 c4 SS hrd
    by_cases hlt : k < plan.length
    · obtain ⟨a3, c3, e3, -, -, hq⟩ := (HP.out.same HV.out.1 HI.out.2.2.2.1 (fun b hb => ⟨by omega, by omega⟩)).ints
      obtain ⟨b, off, ha, -, hcell⟩ := hq (by omega)
      simp only [Value.slice.injEq] at e3
      obtain ⟨rfl, -, rfl⟩ := e3
      subst ha
      have zc := hcell k hlt
      have ez : plan.getD k 0 = plan[k] := by simp [List.getD, hlt]
      have es : endTo m zs zs.length plan (k + 1) = ((snk m zs plan[k] (endTo m zs zs.length plan k).1 (endTo m zs zs.length plan k).2.1 zs.length).1, (snk m zs plan[k] (endTo m zs zs.length plan k).1 (endTo m zs zs.length plan k).2.1 zs.length).2 - min m.fill (snk m zs plan[k] (endTo m zs zs.length plan k).1 (endTo m zs zs.length plan k).2.1 zs.length).2, (endTo m zs zs.length plan k).2.2 + min m.fill (snk m zs plan[k] (endTo m zs zs.length plan k).1 (endTo m zs zs.length plan k).2.1 zs.length).2) := by rw [← ez]; rfl
      have HSz := HS.out plan[k]
      have sb := snk_bd HO.out zs plan[k] (endTo m zs zs.length plan k).1 (endTo m zs zs.length plan k).2.1 zs.length (by have := HNN.out; omega)
      have fl := HO.out.fill
      generalize snk m zs plan[k] (endTo m zs zs.length plan k).1 (endTo m zs zs.length plan k).2.1 zs.length = q at es HSz sb
      generalize plan[k] = z at zc HSz
      have HZ := Lib.hid HSz
      have HES := Lib.hid es
      clear HSz es ez hcell hq HS
      go_wp2_with (go_at_call 63; refine HZ.out.mono ?_; rintro e w6 ⟨⟨r, rfl⟩, g0, g1, g2, g5, g3⟩; have c9 := g5.cell (b := w.heap.size) ⟨by omega, by omega⟩ HM.out.1.c9)
      go_roundw
      case rel =>
        have em : min m.fill q.2 = if q.2 < m.fill then q.2 else m.fill := by split <;> omega
        refine ⟨k + 1, by omega, ?_, by go_num, ?_⟩
        · rw [HES.out, em]
        · rw [HES.out, em]
          exact Lib.hid ⟨g0.other (by omega), World.cell?_setCell_same _ _ _ g1, by rw [World.frozen?_setCell]; exact g2,
            (HI.out.2.2.2.1.trans g5).setCell _ (fun q => q.2 rfl), fun N a b => ((HI.out.2.2.2.2 N a b).trans (g3 N a b)).setCell (p := ⟨w.heap.size + 1 + 1, 0, none⟩) b _⟩
      case measure => simp [intOf]; omega
    · obtain rfl : k = plan.length := by omega
      go_wp2_with (go_at_call 63; refine (HS.out 601).mono ?_; rintro e w6 ⟨⟨r, rfl⟩, -, g1, g2, -, g3⟩)
      have g4 := World.cell?_setCell_same w6 ⟨w.heap.size + 1 + 1, 0, none⟩ (.int .i64 (snk m zs 601 (endTo m zs zs.length plan plan.length).1 (endTo m zs zs.length plan plan.length).2.1 zs.length).2) g1
      refine bodyPost_ret (v := .tuple #[.int .i64 (snk m zs 601 (endTo m zs zs.length plan plan.length).1 (endTo m zs zs.length plan plan.length).2.1 zs.length).2, .int .i64 (endTo m zs zs.length plan plan.length).2.2]) (by simp [results, Tryz.results21, go_sem, g4]) rfl ⟨rfl, ?_⟩
      exact ((HV.out.1.trans (HI.out.2.2.2.2 w.heap.size (by omega) (by omega))).trans (g3 w.heap.size (by omega) (by omega))).setCell (p := ⟨w.heap.size + 1 + 1, 0, none⟩) (by show w.heap.size ≤ w.heap.size + 1 + 1; omega) _

end Go.Proofs.YtcncmlpppabbcaaGreat
