/- The walk of 'close': what it hands back is the tightened table and whether its diagonal is sound. -/
import Derived.Test.YtcncmlpppabbcaaGreatW12
import Derived.Test.YtcncmlpppabbcaaGreatM1
import Derived.Test.YtcncmlpppabbcaaGreatM8
import Derived.Test.YtcncmlpppabbcaaGreatM10
import Derived.Test.YtcncmlpppabbcaaGreatM11
import Derived.WalkMore
import Derived.Deep.Cut
import Derived.Test.YtcncmlpppabbcaaGreatW5
import Derived.RangeFuncNested
import Derived.RangeFuncBound
import Derived.RangeFuncCalls
import Derived.RangeFuncLeaves
import Derived.Shelf.RegionOpen
import Derived.RangeFuncFrom
import Derived.Shelf.Abstract
import Derived.OwnWalkIn
import Derived.TacticsInMore
import Derived.LoopNIn
import Derived.LoopIn
namespace Go.Proofs.YtcncmlpppabbcaaGreat
set_option linter.unusedVariables false
set_option linter.unusedSimpArgs false
open Go.RowKit Go.Shelf
attribute [local go_sem] Oper.semAt_some

theorem CloseCtx.below2 {w wr w' : World} {err : Int} {v rv : Value} {n : Nat} (h : CloseCtx w wr err v rv) (hb : Below n wr w') (hn : w.heap.size < n) : CloseCtx w w' err v rv :=
  ⟨(hb.cell (p := ⟨w.heap.size, 0, none⟩) hn).trans h.l0, (hb.cell (p := ⟨w.heap.size, 1, none⟩) hn).trans h.l1, (hb.cell (p := ⟨w.heap.size, 2, none⟩) hn).trans h.l2, h.B.trans (hb.mono (by omega)), Nat.le_trans h.sz hb.size⟩
theorem TabAt.below2 {w w' : World} {B : Nat} {M : Tab} {n : Nat} (h : TabAt w B M) (hb : Below n w w') (hn : B < n) : TabAt w' B M := by
  unfold TabAt
  rw [hb.block B hn]; exact h

theorem rd_base_stps {w : World} {v : Value} {ss : List Stp} (h : Rd w 4 v (stpRows ss)) (hn : 0 < ss.length) {b o a c : Nat} (e : v = .slice (some ⟨b, o, none⟩) a c) : b < w.heap.size := by
  obtain ⟨a, c, rfl, -, hm, hcs⟩ := h.stps
  obtain ⟨b', off, rfl, hbl, hcs⟩ := hcs hn
  simp at e
  omega
theorem rd_base_ints {w : World} {v : Value} {xs : List Int} (h : Rd w 1 v (ints xs)) (hn : 0 < xs.length) {b o a c : Nat} (e : v = .slice (some ⟨b, o, none⟩) a c) : b < w.heap.size := by
  obtain ⟨a, c, rfl, -, hm, hcs⟩ := h.ints
  obtain ⟨b', off, rfl, hbl, hcs⟩ := hcs hn
  simp at e
  omega

set_option maxRecDepth 100000 in
set_option maxHeartbeats 4000000 in
theorem close_any (err : Int) (ss : List Stp) (rs : List Int) (v rv : Value) (hL : LineOk err ss) (hR : ReadOk ss rs) (w : World) (hv : Rd w 4 v (stpRows ss)) (hr : Rd w 1 rv (ints rs)) :
    Calls Tryz.prog 51 #[.agg #[.int .i64 err, v, rv]] w fun e w' => e = .returned (.tuple #[.agg (tabCells (closed err ss rs)), .bool (sound (closed err ss rs))]) ∧ Below w.heap.size w w' := by
  refine (callsIn_wide (n := 3)).1 ?_
  refine callsIn_of_wp_marks Tryz.func51 rfl trivial ?_ rfl
  simp only [Tryz.ntmps51, List.size_toArray, List.length_cons, List.length_nil, Nat.reduceAdd, Nat.reduceSub, Array.replicate_succ, Array.replicate_zero, List.push_toArray, List.append_toArray, List.nil_append, List.cons_append]
  refine wpIn_wide.2 ?_
  go_wp2_with fail
  have hC : CloseCtx w ((w.alloc (Obj.cells #[Value.int IntKind.i64 err, v, rv] 99)).alloc (Obj.cells (tabCells (fun _ _ => 0)) 104)) err v rv :=
    ⟨by simp, by simp, by simp, below_alloc2 _ _ _, by simp⟩
  have hT : TabAt ((w.alloc (Obj.cells #[Value.int IntKind.i64 err, v, rv] 99)).alloc (Obj.cells (tabCells (fun _ _ => 0)) 104)) (w.heap.size + 1) (fun _ _ => 0) := by
    have := heap_alloc_new (w.alloc (Obj.cells #[Value.int IntKind.i64 err, v, rv] 99)) (Obj.cells (tabCells (fun _ _ => 0)) 104)
    simpa [TabAt] using this
  have he : ∀ w1 : World, w1.alloc (Obj.cells (tabCells (fun _ _ => 0)) 104) = w1.alloc (Obj.cells (tabCells (fun _ _ => 0)) 104) := fun _ => rfl
  go_loopw [14] (fun i wr => ∃ k : Nat, k ≤ 8 ∧ i = .int .i64 k ∧ CloseCtx w wr err v rv ∧ TabAt wr (w.heap.size + 1) (initAt k 0)) (fun i _ => 8 - (intOf i).toNat)
  case atStart => exact ⟨0, by omega, rfl, hC, hT.congr (fun a b _ _ => by simp [initAt])⟩
  case round =>
    clear hC hT he
    obtain ⟨i, hi, rfl, hC, hT⟩ := hrel
    by_cases hlt : i < 8
    · obtain ⟨wo, rfl⟩ : ∃ wo : World, wo = wr := ⟨_, rfl⟩
      have hlt' : (i : Int) < 8 := by omega
      go_wp2_with fail
      go_loopw [17] (fun x wr => ∃ k : Nat, k ≤ 8 ∧ x = .int .i64 k ∧ CloseCtx w wr err v rv ∧ TabAt wr (w.heap.size + 1) (initAt i k)) (fun x _ => 8 - (intOf x).toNat)
      case atStart => exact ⟨0, by omega, rfl, hC, hT⟩
      case round =>
        clear hC hT
        obtain ⟨k, hk, rfl, hC, hT⟩ := hrel
        by_cases hkl : k < 8
        · have hkl' : (k : Int) < 8 := by omega
          by_cases hik : i = k
          · subst hik
            have t1 : ((i : Int) != (i : Int)) = false := by simp
            go_wp2_with fail
            go_roundw
            case rel => exact ⟨i + 1, by omega, by go_num, hC, by rw [← init_skip]; exact hT⟩
            case measure => simp [intOf]; omega
          · have t1 : ((i : Int) != (k : Int)) = true := by rw [bne_iff_ne]; omega
            have c0 := hT.cell i k (by omega) (by omega)
            have f0 := hT.frozen (i * 8 + k)
            go_wp2_with fail
            go_ways
            go_roundw
            case rel =>
              refine ⟨k + 1, by omega, by go_num, hC.set _ _ (by omega), ?_⟩
              rw [← init_step i k hik]
              exact hT.set i k _ (by omega) (by omega)
            case measure => simp [intOf]; omega
        · have hk' : k = 8 := by omega
          subst hk'
          go_wp2_with fail
          go_roundw
          case rel => exact ⟨i + 1, by omega, by go_num, hC, hT.congr (fun a b _ hb => init_next i a b hb)⟩
          case measure => simp [intOf]; omega
    · have hi8 : i = 8 := by omega
      subst hi8
      have hT' : TabAt wr (w.heap.size + 1) tab0 := hT.congr (fun a b ha _ => init_end a b ha)
      have l0 := hC.l0
      have l1 := hC.l1
      have l2 := hC.l2
      clear hT
      go_wp2_with fail
      refine (points_any err v rv _).mono ?_
      rintro e w2 ⟨rfl, rfl⟩
      go_wp2_with fail
      have hC2 := hC.alloc (.cells #[.int .i64 err, v, rv] 99)
      have hT2 := hT'.alloc (.cells #[.int .i64 err, v, rv] 99)
      have p0 : (wr.alloc (.cells #[.int .i64 err, v, rv] 99)).cell? ⟨wr.heap.size, 0, none⟩ = some (.int .i64 err) := by simp
      have p1 : (wr.alloc (.cells #[.int .i64 err, v, rv] 99)).cell? ⟨wr.heap.size, 1, none⟩ = some v := by simp
      have p2 : (wr.alloc (.cells #[.int .i64 err, v, rv] 99)).cell? ⟨wr.heap.size, 2, none⟩ = some rv := by simp
      have hsz := hC.sz
      have hsz2 : (wr.alloc (.cells #[.int .i64 err, v, rv] 99)).heap.size = wr.heap.size + 1 := by simp
      obtain ⟨W0, hW0⟩ : ∃ W0, wr.alloc (.cells #[.int .i64 err, v, rv] 99) = W0 := ⟨_, rfl⟩
      rw [hW0] at hC2 hT2 p0 p1 p2 hsz2 ⊢
      have hv2 : Rd W0 4 v (stpRows ss) := hv.below hC2.B
      have hr2 : Rd W0 1 rv (ints rs) := hr.below hC2.B
      clear hT' l0 l1 l2 hC hW0
      refine (wpIn_wide (n := 3)).1 ?_
      refine wpIn_rangeFunc_up (n := 3) (α := Pts rs.length) rfl (by decide) (gf := 89) (lb := #[.pointer (some ⟨wr.heap.size, 0, none⟩)]) rfl trivial (enters_of Tryz.func89 (by kernel_rfl) rfl)
        (points_stops 2 (by decide) wr.heap.size (wr.heap.size + 1) (w.heap.size + 1) err ss rs v rv hL hR W0 (by omega) (by omega) (by omega) p0 p1 p2 hv2 ?hvb hr2 ?hrb)
        BelowBut.trans (belowBut_b (by omega)) (fun _ => rfl)
        (fun pre W => W0.heap.size ≤ W.heap.size ∧ CloseCtx w W err v rv ∧ TabAt W (w.heap.size + 1) (tabL (loAt err ss rs) (hiAt err ss rs) pre))
        (ownFrom_of_below (fun _ _ h => h.1) (fun _ _ _ h hb => ⟨Nat.le_trans h.1 hb.size, h.2.1.below2 hb (by omega), h.2.2.below2 hb (by omega)⟩))
        ⟨Nat.le_refl _, hC2, hT2⟩
        (fun x Bx t => (((t.setIfInBounds 31 (.int .i64 x.1)).setIfInBounds 32 (.agg #[.int .i64 (loAt err ss rs x.1), .int .i64 (hiAt err ss rs x.1)])).setIfInBounds 6 (.int .i64 x.1)).setIfInBounds 7 (.pointer (some ⟨Bx, 0, none⟩)))
        (fun x => [.int .i64 (loAt err ss rs x.1), .int .i64 (hiAt err ss rs x.1)])
        ?assign ?body ?done
      case hvb =>
        intro b o a c e
        have := rd_base_stps hv (by have := hL.len; omega) e
        omega
      case hrb =>
        intro b o a c e
        have := rd_base_ints hr (by have := hR.len; omega) e
        omega
      case assign =>
        rintro l pre x W K ⟨hs, hc, ht⟩ hK
        simp only [ptEnc]
        gi_wp2
        refine hK W.heap.size _ hs ((KeepsOthers.alloc _ _).from _) ((BelowBut.refl _ _ _).alloc (by omega) _) ⟨by simp; omega, hc.alloc _, ht.alloc _⟩ ?_
        intro i v hv
        have hi2 : i < 2 := by have := (List.getElem?_eq_some_iff.1 hv).1; simpa using this
        obtain rfl | rfl : i = 0 ∨ i = 1 := by omega
        · simp at hv ⊢; exact hv
        · simp at hv ⊢; exact hv
      case body =>
        rintro l pre x Bx W hl ⟨r, hr⟩ hB hc ⟨hs, hctx, ht⟩ hlt
        have d0 := hc 0 _ rfl
        have d1 := hc 1 _ rfl
        have hx := x.2
        have hlen := hR.len
        have hl1 := hL.len
        obtain ⟨i, hi⟩ : ∃ i, x.1 = i := ⟨_, rfl⟩
        rw [hi] at d0 d1 hx
        have c0 := ht.cell i 7 (by omega) (by omega)
        have c1 := ht.cell 7 i (by omega) (by omega)
        have f0 := ht.frozen
        have hlo := lo_bd hL hR i hx
        have hneg : IntKind.i64.wrap (-loAt err ss rs i) = -loAt err ss rs i := by simp [IntKind.wrap, IntKind.bits, IntKind.signed]; omega
        have hfin : KeepsFrom W0.heap.size W ((W.setCell ⟨w.heap.size + 1, i * 8 + 7, none⟩ (.int .i64 (hiAt err ss rs i))).setCell ⟨w.heap.size + 1, 56 + i, none⟩ (.int .i64 (-loAt err ss rs i))).drew ∧
            BelowBut (wr.heap.size + 1) (w.heap.size + 1) W ((W.setCell ⟨w.heap.size + 1, i * 8 + 7, none⟩ (.int .i64 (hiAt err ss rs i))).setCell ⟨w.heap.size + 1, 56 + i, none⟩ (.int .i64 (-loAt err ss rs i))).drew ∧
            (W0.heap.size ≤ ((W.setCell ⟨w.heap.size + 1, i * 8 + 7, none⟩ (.int .i64 (hiAt err ss rs i))).setCell ⟨w.heap.size + 1, 56 + i, none⟩ (.int .i64 (-loAt err ss rs i))).drew.heap.size ∧ CloseCtx w ((W.setCell ⟨w.heap.size + 1, i * 8 + 7, none⟩ (.int .i64 (hiAt err ss rs i))).setCell ⟨w.heap.size + 1, 56 + i, none⟩ (.int .i64 (-loAt err ss rs i))).drew err v rv ∧
              TabAt ((W.setCell ⟨w.heap.size + 1, i * 8 + 7, none⟩ (.int .i64 (hiAt err ss rs i))).setCell ⟨w.heap.size + 1, 56 + i, none⟩ (.int .i64 (-loAt err ss rs i))).drew (w.heap.size + 1) (tabL (loAt err ss rs) (hiAt err ss rs) (pre ++ [x]))) := by
          refine ⟨(((KeepsOthers.setCell _ _ _).trans (KeepsOthers.setCell _ _ _)).trans (KeepsOthers.drew _)).from _, (((BelowBut.refl _ _ _).setCell (.inl rfl) _).setCell (.inl rfl) _).drew, ?_, ((hctx.set _ _ (by omega)).set _ _ (by omega)).drew, ?_⟩
          · simpa [World.drew] using hs
          · rw [tabL_snoc, hi]
            exact ((ht.set i 7 _ (by omega) (by omega)).set 7 i _ (by omega) (by omega)).drew
        gi_wp2
        have hi8 : (i : Int) < 8 := by omega
        refine wpIn_region_round (by kernel_rfl) rfl (by kernel_rfl) 13 rfl ?_
        ((refine wpAnyIn_take (i := 0) (v := ?_) rfl rfl (by kernel_rfl) ?_ ?_ (fun _ _ _ h => h) ⟨Or.inl ⟨by rfl, ?_⟩, fun _ => rfl⟩ ?_; rotate_left; decide +kernel; decide +kernel; focus (intro w; go_simp; first | done | with_reducible rfl)); (refine wpAnyIn_take (i := 1) (v := ?_) rfl rfl (by kernel_rfl) ?_ ?_ (fun _ _ _ h => h) ⟨Or.inl ⟨by rfl, ?_⟩, fun _ => rfl⟩ ?_; rotate_left; decide +kernel; decide +kernel; focus (intro w; go_simp; first | done | with_reducible rfl)); (refine wpAnyIn_take (i := 2) (v := ?_) rfl rfl (by kernel_rfl) ?_ ?_ (fun _ _ _ h => h) ⟨Or.inl ⟨by rfl, ?_⟩, fun _ => rfl⟩ ?_; rotate_left; decide +kernel; decide +kernel; focus (intro w; go_simp; first | done | with_reducible rfl)); (refine wpAnyIn_take (i := 4) (v := ?_) rfl rfl (by kernel_rfl) ?_ ?_ (fun _ _ _ h => h) ⟨Or.inl ⟨by rfl, ?_⟩, fun _ => rfl⟩ ?_; rotate_left; decide +kernel; decide +kernel; focus (intro w; go_simp; first | done | with_reducible rfl)); (refine wpAnyIn_take (i := 7) (v := ?_) rfl rfl (by kernel_rfl) ?_ ?_ (fun _ _ _ h => h) ⟨Or.inl ⟨by rfl, ?_⟩, fun _ => rfl⟩ ?_; rotate_left; decide +kernel; decide +kernel; focus (intro w; go_simp; first | done | with_reducible rfl)); (refine wpAnyIn_take (i := 10) (v := ?_) rfl rfl (by kernel_rfl) ?_ ?_ (fun _ _ _ h => h) ⟨Or.inl ⟨by rfl, ?_⟩, fun _ => rfl⟩ ?_; rotate_left; decide +kernel; decide +kernel; focus (intro w; go_simp; first | done | with_reducible rfl)))
        refine wpAnyIn_ready (rs := [3, 5]) ?_ (by simp) ?_; decide +kernel
        refine AllReadyIn.cons rfl (fun K hK => ?_) ?_
        · (go_simp; refine hK _ _ ?_; clear hK K)
          ((refine wpAnyIn_take (i := 8) (v := ?_) rfl rfl (by kernel_rfl) ?_ ?_ (fun _ _ _ h => h) ⟨Or.inl ⟨by rfl, ?_⟩, fun _ => rfl⟩ ?_; rotate_left; decide +kernel; decide +kernel; focus (intro w; go_simp; first | done | with_reducible rfl)))
          refine wpAnyIn_ready (rs := [5, 9]) ?_ (by simp) ?_; decide +kernel
          refine AllReadyIn.cons rfl (fun K hK => ?_) ?_
          · (go_simp; refine hK _ _ ?_; clear hK K)
            ((refine wpAnyIn_take (i := 6) (v := ?_) rfl rfl (by kernel_rfl) ?_ ?_ (fun _ _ _ h => h) ⟨Or.inl ⟨by rfl, ?_⟩, fun _ => rfl⟩ ?_; rotate_left; decide +kernel; decide +kernel; focus (intro w; go_simp; first | done | with_reducible rfl)))
            refine wpAnyIn_ready (rs := [9]) ?_ (by simp) ?_; decide +kernel
            refine AllReadyIn.cons rfl (fun K hK => ?_) ?_
            · (go_simp; refine hK _ _ ?_; clear hK K)
              ((refine wpAnyIn_take (i := 11) (v := ?_) rfl rfl (by kernel_rfl) ?_ ?_ (fun _ _ _ h => h) ⟨Or.inl ⟨by rfl, ?_⟩, fun _ => rfl⟩ ?_; rotate_left; decide +kernel; decide +kernel; focus (intro w; go_simp; first | done | with_reducible rfl)))
              refine wpAnyIn_ready (rs := [12]) ?_ (by simp) ?_; decide +kernel
              refine AllReadyIn.cons rfl (fun K hK => ?_) ?_
              · (go_simp; refine hK _ _ ?_; clear hK K)
                refine wpAnyIn_done ?_ ?_ _; decide +kernel
                exact hfin
              exact AllReadyIn.nil
            exact AllReadyIn.nil
          refine AllReadyIn.cons rfl (fun K hK => ?_) ?_
          · (go_simp; refine hK _ _ ?_; clear hK K)
            refine wpAnyIn_ready (rs := [5]) ?_ (by simp) ?_; decide +kernel
            refine AllReadyIn.cons rfl (fun K hK => ?_) ?_
            · (go_simp; refine hK _ _ ?_; clear hK K)
              ((refine wpAnyIn_take (i := 6) (v := ?_) rfl rfl (by kernel_rfl) ?_ ?_ (fun _ _ _ h => h) ⟨Or.inl ⟨by rfl, ?_⟩, fun _ => rfl⟩ ?_; rotate_left; decide +kernel; decide +kernel; focus (intro w; go_simp; first | done | with_reducible rfl)); (refine wpAnyIn_take (i := 11) (v := ?_) rfl rfl (by kernel_rfl) ?_ ?_ (fun _ _ _ h => h) ⟨Or.inl ⟨by rfl, ?_⟩, fun _ => rfl⟩ ?_; rotate_left; decide +kernel; decide +kernel; focus (intro w; go_simp; first | done | with_reducible rfl)))
              refine wpAnyIn_ready (rs := [12]) ?_ (by simp) ?_; decide +kernel
              refine AllReadyIn.cons rfl (fun K hK => ?_) ?_
              · (go_simp; refine hK _ _ ?_; clear hK K)
                refine wpAnyIn_done ?_ ?_ _; decide +kernel
                exact hfin
              exact AllReadyIn.nil
            exact AllReadyIn.nil
          exact AllReadyIn.nil
        refine AllReadyIn.cons rfl (fun K hK => ?_) ?_
        · (go_simp; refine hK _ _ ?_; clear hK K)
          ((refine wpAnyIn_take (i := 6) (v := ?_) rfl rfl (by kernel_rfl) ?_ ?_ (fun _ _ _ h => h) ⟨Or.inl ⟨by rfl, ?_⟩, fun _ => rfl⟩ ?_; rotate_left; decide +kernel; decide +kernel; focus (intro w; go_simp; first | done | with_reducible rfl)))
          refine wpAnyIn_ready (rs := [3]) ?_ (by simp) ?_; decide +kernel
          refine AllReadyIn.cons rfl (fun K hK => ?_) ?_
          · (go_simp; refine hK _ _ ?_; clear hK K)
            ((refine wpAnyIn_take (i := 8) (v := ?_) rfl rfl (by kernel_rfl) ?_ ?_ (fun _ _ _ h => h) ⟨Or.inl ⟨by rfl, ?_⟩, fun _ => rfl⟩ ?_; rotate_left; decide +kernel; decide +kernel; focus (intro w; go_simp; first | done | with_reducible rfl)))
            refine wpAnyIn_ready (rs := [9]) ?_ (by simp) ?_; decide +kernel
            refine AllReadyIn.cons rfl (fun K hK => ?_) ?_
            · (go_simp; refine hK _ _ ?_; clear hK K)
              ((refine wpAnyIn_take (i := 11) (v := ?_) rfl rfl (by kernel_rfl) ?_ ?_ (fun _ _ _ h => h) ⟨Or.inl ⟨by rfl, ?_⟩, fun _ => rfl⟩ ?_; rotate_left; decide +kernel; decide +kernel; focus (intro w; go_simp; first | done | with_reducible rfl)))
              refine wpAnyIn_ready (rs := [12]) ?_ (by simp) ?_; decide +kernel
              refine AllReadyIn.cons rfl (fun K hK => ?_) ?_
              · (go_simp; refine hK _ _ ?_; clear hK K)
                refine wpAnyIn_done ?_ ?_ _; decide +kernel
                exact hfin
              exact AllReadyIn.nil
            exact AllReadyIn.nil
          exact AllReadyIn.nil
        exact AllReadyIn.nil
      case done =>
        rintro D zs W hD rfl ⟨hs, hctx, ht⟩ hK
        rw [tabL_pts] at ht
        have hCD : CloseD w W D err v rv := ⟨hctx, hK, by omega⟩
        obtain ⟨sa, sc, rfl, hcc, hm, hcs⟩ := hv.stps
        obtain ⟨sb, so, rfl, hbl, hcs⟩ := hcs (by have := hL.len; omega)
        have HCS := Lib.hid hcs
        have HL := Lib.hid hL
        have hl1 := hL.len
        have hlen := hR.len
        clear hv hr hv2 hr2 hcs hctx hK hC2 hT2 p0 p1 p2 hL hs hD
        gi_wp2
        have l1 := hCD.c.l1
        go_wp2_with fail
        clear l1
        go_loopw [48] (fun x wr => ∃ k : Nat, k ≤ ss.length ∧ x = .int .i64 k ∧ CloseD w wr D err (.slice (some ⟨sb, so, none⟩) ss.length sc) rv ∧ TabAt wr (w.heap.size + 1) (tabS (tabR (loAt err ss rs) (hiAt err ss rs) rs.length) (slo ss) (shi ss) k))
          (fun x _ => ss.length - (intOf x).toNat)
        case atStart => exact ⟨0, by omega, rfl, hCD, ht⟩
        case round =>
          clear hCD ht
          obtain ⟨k, hk, rfl, hCD, hT⟩ := hrel
          by_cases hlt : k < ss.length
          · have hlt' : (k : Int) < ss.length := by omega
            obtain ⟨s0, s1, s2, s3⟩ := HCS.out k hlt
            replace s0 := keep hCD.c.B s0
            replace s1 := keep hCD.c.B s1
            replace s2 := keep hCD.c.B s2
            replace s3 := keep hCD.c.B s3
            go_wp2_with fail
            have hCD1 := hCD.alloc (.cells #[.string ss[k].name, .int .i64 ss[k].lo, .int .i64 ss[k].hi, .int .i64 ss[k].err] 41)
            have hT1 := hT.alloc (.cells #[.string ss[k].name, .int .i64 ss[k].lo, .int .i64 ss[k].hi, .int .i64 ss[k].err] 41)
            have n1 : (wr.alloc (.cells #[.string ss[k].name, .int .i64 ss[k].lo, .int .i64 ss[k].hi, .int .i64 ss[k].err] 41)).cell? ⟨wr.heap.size, 1, none⟩ = some (.int .i64 ss[k].lo) := by simp
            have n2 : (wr.alloc (.cells #[.string ss[k].name, .int .i64 ss[k].lo, .int .i64 ss[k].hi, .int .i64 ss[k].err] 41)).cell? ⟨wr.heap.size, 2, none⟩ = some (.int .i64 ss[k].hi) := by simp
            obtain ⟨W1, hW1⟩ : ∃ W1, wr.alloc (.cells #[.string ss[k].name, .int .i64 ss[k].lo, .int .i64 ss[k].hi, .int .i64 ss[k].err] 41) = W1 := ⟨_, rfl⟩
            rw [hW1] at hCD1 hT1 n1 n2 ⊢
            have hszw := hCD.c.sz
            clear hW1 hCD hT s0 s1 s2 s3
            have hst := HL.out.stp ss[k] (List.getElem_mem _)
            have e1 : slo ss k = ss[k].lo := by simp [slo, hlt]
            have e2 : shi ss k = ss[k].hi := by simp [shi, hlt]
            generalize ss[k] = x at n1 n2 hst e1 e2 ⊢
            have c0 := hT1.cell k (k + 1) (by omega) (by omega)
            have c1 := hT1.cell (k + 1) k (by omega) (by omega)
            have f0 := hT1.frozen
            have hk8 : (k : Int) < 8 := by omega
            have hk8' : (k : Int) + 1 < 8 := by omega
            have hneg : IntKind.i64.wrap (-x.lo) = -x.lo := by simp [IntKind.wrap, IntKind.bits, IntKind.signed]; omega
            have hrel : CloseD w ((W1.setCell ⟨w.heap.size + 1, k * 8 + (k + 1), none⟩ (.int .i64 x.hi)).setCell ⟨w.heap.size + 1, (k + 1) * 8 + k, none⟩ (.int .i64 (-x.lo))).drew D err (.slice (some ⟨sb, so, none⟩) ss.length sc) rv ∧
                TabAt ((W1.setCell ⟨w.heap.size + 1, k * 8 + (k + 1), none⟩ (.int .i64 x.hi)).setCell ⟨w.heap.size + 1, (k + 1) * 8 + k, none⟩ (.int .i64 (-x.lo))).drew (w.heap.size + 1) (tabS (tabR (loAt err ss rs) (hiAt err ss rs) rs.length) (slo ss) (shi ss) (k + 1)) := by
              refine ⟨((hCD1.tab _).tab _).drew, ?_⟩
              have := ((hT1.set k (k + 1) x.hi (by omega) (by omega)).set (k + 1) k (-x.lo) (by omega) (by omega)).drew
              simp only [tabS, e1, e2]
              exact this
            have m1 : (W1.setCell ⟨w.heap.size + 1, k * 8 + (k + 1), none⟩ (.int .i64 x.hi)).cell? ⟨wr.heap.size, 1, none⟩ = some (.int .i64 x.lo) := by
              rw [World.cell?_of_block (w := W1) (heap_setCell_ne (b := w.heap.size + 1) (g := wr.heap.size) (by omega))]; exact n1
            have m2 := (hT1.set k (k + 1) x.hi (by omega) (by omega)).cell (k + 1) k (by omega) (by omega)
            refine wp_calm ?_
            go_region
            all_goals refine onlyNormal_mk ?_
            all_goals go_wp2_with fail
            all_goals go_roundw
            case rel => exact ⟨k + 1, by omega, by go_num, hrel⟩
            case measure => simp [intOf]; omega
          · obtain rfl : k = ss.length := by omega
            have hbd := tabOf_bd HL.out hR
            change TabAt wr (w.heap.size + 1) (tabOf err ss rs) at hT
            have ecl : closed err ss rs = fwTo (liveOf ss) (tabOf err ss rs) 8 := rfl
            generalize tabOf err ss rs = T0 at hT hbd ecl
            have HCL := Lib.hid ecl
            clear ecl
            go_wp2_with fail
            go_loopw [71] (fun x wr => ∃ j : Nat, j ≤ 8 ∧ x = .int .i64 j ∧ CloseD w wr D err (.slice (some ⟨sb, so, none⟩) ss.length sc) rv ∧ TabAt wr (w.heap.size + 1) (fwTo (liveOf ss) T0 j))
              (fun x _ => 8 - (intOf x).toNat)
            case atStart => exact ⟨0, by omega, rfl, hCD, hT⟩
            case round =>
              clear hCD hT
              obtain ⟨j, hj, rfl, hCD, hT⟩ := hrel
              by_cases hjl : j < 8
              · have hjl' : (j : Int) < 8 := by omega
                obtain ⟨wo, rfl⟩ : ∃ wo : World, wo = wr := ⟨_, rfl⟩
                go_wp2_with fail
                go_step3
                go_wp2_with fail
                go_step3
                go_wp2_with fail
                go_loopw [74] (fun x wr => ∃ i : Nat, i ≤ 8 ∧ x = .int .i64 i ∧ CloseD w wr D err (.slice (some ⟨sb, so, none⟩) ss.length sc) rv ∧ TabAt wr (w.heap.size + 1) (colTo (liveOf ss) (fwTo (liveOf ss) T0 j) j i))
                  (fun x _ => 8 - (intOf x).toNat)
                case atStart => exact ⟨0, by omega, rfl, hCD, hT⟩
                case round =>
                  clear hCD hT
                  obtain ⟨i, hi, rfl, hCD, hT⟩ := hrel
                  by_cases hil : i < 8
                  · have hil' : (i : Int) < 8 := by omega
                    have l1 := hCD.c.l1
                    by_cases hlv : i ≤ ss.length
                    · have hlv' : (i : Int) ≤ ss.length := by omega
                      have elive : liveOf ss i = true := by simp [liveOf, hlv]
                      go_wp2_with fail
                      go_loopw [87] (fun x wr => ∃ k : Nat, k ≤ 8 ∧ x = .int .i64 k ∧ CloseD w wr D err (.slice (some ⟨sb, so, none⟩) ss.length sc) rv ∧ TabAt wr (w.heap.size + 1) (rowTo (colTo (liveOf ss) (fwTo (liveOf ss) T0 j) j i) j i k))
                        (fun x _ => 8 - (intOf x).toNat)
                      case atStart => exact ⟨0, by omega, rfl, hCD, hT⟩
                      case round =>
                        clear hCD hT l1
                        obtain ⟨k, hk, rfl, hCD, hT⟩ := hrel
                        by_cases hkl : k < 8
                        · have hkl' : (k : Int) < 8 := by omega
                          have hs := sum_bd (liveOf ss) T0 hbd j i k hjl _ rfl
                          obtain ⟨M, hM⟩ : ∃ M, rowTo (colTo (liveOf ss) (fwTo (liveOf ss) T0 j) j i) j i k = M := ⟨_, rfl⟩
                          rw [hM] at hs hT
                          have hrel : ∀ o : Obj, CloseD w (((wr.alloc o).drew).setCell ⟨w.heap.size + 1, i * 8 + k, none⟩ (.int .i64 (min (M i k) (M i j + M j k)))).drew D err (.slice (some ⟨sb, so, none⟩) ss.length sc) rv ∧
                              TabAt (((wr.alloc o).drew).setCell ⟨w.heap.size + 1, i * 8 + k, none⟩ (.int .i64 (min (M i k) (M i j + M j k)))).drew (w.heap.size + 1) (rowTo (colTo (liveOf ss) (fwTo (liveOf ss) T0 j) j i) j i (k + 1)) := by
                            intro o
                            refine ⟨((hCD.alloc _).drew.tab _).drew, ?_⟩
                            rw [rowTo, hM]
                            exact ((hT.alloc o).drew.set i k _ (by omega) (by omega)).drew
                          have g0 : ∀ o : Obj, ((wr.alloc o).drew).cell? ⟨w.heap.size + 1, i * 8 + k, none⟩ = some (.int .i64 (M i k)) := fun o => (hT.alloc o).drew.cell i k (by omega) (by omega)
                          have g1 : ∀ o : Obj, ((wr.alloc o).drew).frozen? ⟨w.heap.size + 1, i * 8 + k, none⟩ = false := fun o => (hT.alloc o).drew.frozen _
                          have G0 := Lib.hid g0
                          have G1 := Lib.hid g1
                          have HR := Lib.hid hrel
                          clear g0 g1 hrel
                          have c0 := hT.cell i j (by omega) (by omega)
                          have c1 := hT.cell j k (by omega) (by omega)
                          have hw : IntKind.i64.wrap (M i j + M j k) = M i j + M j k := by simp [IntKind.wrap, IntKind.bits, IntKind.signed]; omega
                          go_wp2_with fail
                          refine wp_calm ?_
                          go_region_with (go_at_call 88; refine (least_any _ _ (M i k) (M i j + M j k) _ ?_ ?_ ?_).mono ?_; (exact G0.out _); (exact G1.out _); (simp); rintro e w' ⟨rfl, rfl⟩)
                          all_goals refine onlyNormal_mk ?_
                          all_goals go_wp2_with fail
                          all_goals go_roundw
                          all_goals first | exact ⟨k + 1, by omega, by go_num, HR.out _⟩ | (simp [intOf]; omega)
                        · obtain rfl : k = 8 := by omega
                          go_wp2_with fail
                          go_roundw
                          case rel => exact ⟨i + 1, by omega, by go_num, hCD, by simp only [colTo, elive]; exact hT⟩
                          case measure => simp [intOf]; omega
                    · have hlv' : (ss.length : Int) < i := by omega
                      by_cases h7 : i < 7
                      · have h7' : (i : Int) < 7 := by omega
                        have elive : liveOf ss i = false := by simp [liveOf]; omega
                        go_wp2_with fail
                        go_roundw
                        case rel => exact ⟨i + 1, by omega, by go_num, hCD, by simp only [colTo, elive]; exact hT⟩
                        case measure => simp [intOf]; omega
                      · have h7' : ¬ (i : Int) < 7 := by omega
                        have elive : liveOf ss i = true := by simp [liveOf]; omega
                        go_wp2_with fail
                        go_loopw [87] (fun x wr => ∃ k : Nat, k ≤ 8 ∧ x = .int .i64 k ∧ CloseD w wr D err (.slice (some ⟨sb, so, none⟩) ss.length sc) rv ∧ TabAt wr (w.heap.size + 1) (rowTo (colTo (liveOf ss) (fwTo (liveOf ss) T0 j) j i) j i k))
                          (fun x _ => 8 - (intOf x).toNat)
                        case atStart => exact ⟨0, by omega, rfl, hCD, hT⟩
                        case round =>
                          clear hCD hT l1
                          obtain ⟨k, hk, rfl, hCD, hT⟩ := hrel
                          by_cases hkl : k < 8
                          · have hkl' : (k : Int) < 8 := by omega
                            have hs := sum_bd (liveOf ss) T0 hbd j i k hjl _ rfl
                            obtain ⟨M, hM⟩ : ∃ M, rowTo (colTo (liveOf ss) (fwTo (liveOf ss) T0 j) j i) j i k = M := ⟨_, rfl⟩
                            rw [hM] at hs hT
                            have hrel : ∀ o : Obj, CloseD w (((wr.alloc o).drew).setCell ⟨w.heap.size + 1, i * 8 + k, none⟩ (.int .i64 (min (M i k) (M i j + M j k)))).drew D err (.slice (some ⟨sb, so, none⟩) ss.length sc) rv ∧
                                TabAt (((wr.alloc o).drew).setCell ⟨w.heap.size + 1, i * 8 + k, none⟩ (.int .i64 (min (M i k) (M i j + M j k)))).drew (w.heap.size + 1) (rowTo (colTo (liveOf ss) (fwTo (liveOf ss) T0 j) j i) j i (k + 1)) := by
                              intro o
                              refine ⟨((hCD.alloc _).drew.tab _).drew, ?_⟩
                              rw [rowTo, hM]
                              exact ((hT.alloc o).drew.set i k _ (by omega) (by omega)).drew
                            have g0 : ∀ o : Obj, ((wr.alloc o).drew).cell? ⟨w.heap.size + 1, i * 8 + k, none⟩ = some (.int .i64 (M i k)) := fun o => (hT.alloc o).drew.cell i k (by omega) (by omega)
                            have g1 : ∀ o : Obj, ((wr.alloc o).drew).frozen? ⟨w.heap.size + 1, i * 8 + k, none⟩ = false := fun o => (hT.alloc o).drew.frozen _
                            have G0 := Lib.hid g0
                            have G1 := Lib.hid g1
                            have HR := Lib.hid hrel
                            clear g0 g1 hrel
                            have c0 := hT.cell i j (by omega) (by omega)
                            have c1 := hT.cell j k (by omega) (by omega)
                            have hw : IntKind.i64.wrap (M i j + M j k) = M i j + M j k := by simp [IntKind.wrap, IntKind.bits, IntKind.signed]; omega
                            go_wp2_with fail
                            refine wp_calm ?_
                            go_region_with (go_at_call 88; refine (least_any _ _ (M i k) (M i j + M j k) _ ?_ ?_ ?_).mono ?_; (exact G0.out _); (exact G1.out _); (simp); rintro e w' ⟨rfl, rfl⟩)
                            all_goals refine onlyNormal_mk ?_
                            all_goals go_wp2_with fail
                            all_goals go_roundw
                            all_goals first | exact ⟨k + 1, by omega, by go_num, HR.out _⟩ | (simp [intOf]; omega)
                          · obtain rfl : k = 8 := by omega
                            go_wp2_with fail
                            go_roundw
                            case rel => exact ⟨i + 1, by omega, by go_num, hCD, by simp only [colTo, elive]; exact hT⟩
                            case measure => simp [intOf]; omega
                  · obtain rfl : i = 8 := by omega
                    go_wp2_with fail
                    rw [Exit.noGoto_normal]
                    go_wp2_with fail
                    go_roundw
                    case rel => exact ⟨j + 1, by omega, by go_num, hCD, hT⟩
                    case measure => simp [intOf]; omega
              · obtain rfl : j = 8 := by omega
                go_wp2_with fail
                obtain ⟨M, hM⟩ : ∃ M, fwTo (liveOf ss) T0 8 = M := ⟨_, rfl⟩
                have HM := Lib.hid (HCL.out.trans hM)
                rw [hM] at hT
                clear hM HCL hbd
                go_loopw [110] (fun x wr => ∃ i : Nat, i ≤ 8 ∧ x = .int .i64 i ∧ CloseD w wr D err (.slice (some ⟨sb, so, none⟩) ss.length sc) rv ∧ TabAt wr (w.heap.size + 1) M ∧ ∀ a, a < i → 0 ≤ M a a)
                  (fun x _ => 8 - (intOf x).toNat)
                case atStart => exact ⟨0, by omega, rfl, hCD, hT, fun a ha => absurd ha (by omega)⟩
                case round =>
                  clear hCD hT
                  obtain ⟨i, hi, rfl, hCD, hT, hpos⟩ := hrel
                  by_cases hil : i < 8
                  · have hil' : (i : Int) < 8 := by omega
                    have c0 := hT.cell i i (by omega) (by omega)
                    by_cases hneg : M i i < 0
                    · go_upto_region 38 with (fail)
                      refine wp_region_lit ?_
                      refine wpList_load_tab (o := ⟨some 119, _, _, _, _, _⟩) rfl (.tmp 2) rfl (w.heap.size + 1) ?hx M hT ?_
                      case hx => rfl
                      refine wpList_store_tab (o := ⟨none, _, _, _, _, _⟩) rfl (.tmp 2) (.tmp 119) rfl (w.heap.size + 1) ?hx M ?hy hT ?_
                      case hx => rfl
                      case hy => rfl
                      go_wp2_with fail
                      refine ⟨by simp, .inl ⟨_, _, rfl, run_takeDeferred hCD.d, ?_⟩⟩
                      have hlt := hCD.lt
                      have hdl := hCD.dlt
                      refine ⟨_, results_tab rfl _ _ (w.heap.size + 1) M (.bool false) rfl rfl ((World.putObj_heap_other (by omega)).trans hT), ?_, hCD.c.B.trans ⟨rfl, rfl, rfl, by simp [World.putObj], fun k hk => World.putObj_heap_other (by omega)⟩⟩
                      rw [HM.out, (sound_false (by omega) hneg)]
                    · have hpos' : ∀ a, a < i + 1 → 0 ≤ M a a := fun a ha => by
                        by_cases e : a = i
                        · subst e; omega
                        · exact hpos a (by omega)
                      go_wp2_with fail
                      go_roundw
                      case rel => exact ⟨i + 1, by omega, by go_num, hCD, hT, hpos'⟩
                      case measure => simp [intOf]; omega
                  · obtain rfl : i = 8 := by omega
                    go_upto_region 40 with (fail)
                    refine wp_region_lit ?_
                    refine wpList_load_tab (o := ⟨some 121, _, _, _, _, _⟩) rfl (.tmp 2) rfl (w.heap.size + 1) ?hx M hT ?_
                    case hx => rfl
                    refine wpList_store_tab (o := ⟨none, _, _, _, _, _⟩) rfl (.tmp 2) (.tmp 121) rfl (w.heap.size + 1) ?hx M ?hy hT ?_
                    case hx => rfl
                    case hy => rfl
                    go_wp2_with fail
                    refine ⟨by simp, .inl ⟨_, _, rfl, run_takeDeferred hCD.d, ?_⟩⟩
                    have hlt := hCD.lt
                    have hdl := hCD.dlt
                    refine ⟨_, results_tab rfl _ _ (w.heap.size + 1) M (.bool true) rfl rfl ((World.putObj_heap_other (by omega)).trans hT), ?_, hCD.c.B.trans ⟨rfl, rfl, rfl, by simp [World.putObj], fun k hk => World.putObj_heap_other (by omega)⟩⟩
                    rw [HM.out, (sound_true fun a ha => hpos a (by omega))]

end Go.Proofs.YtcncmlpppabbcaaGreat
