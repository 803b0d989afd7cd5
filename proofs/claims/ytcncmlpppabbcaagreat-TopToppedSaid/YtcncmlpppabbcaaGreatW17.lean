/- The walk of 'Weights'. -/
import Derived.Test.YtcncmlpppabbcaaGreatW16
import Derived.Test.YtcncmlpppabbcaaGreatM8
import Derived.RangeFuncLeaves
import Derived.Shelf.Abstract
import Derived.TacticsInMore
import Derived.LoopNIn
import Derived.LoopIn
namespace Go.Proofs.YtcncmlpppabbcaaGreat
set_option linter.unusedVariables false
set_option linter.unusedSimpArgs false
open Go.RowKit Go.Shelf
attribute [local go_sem] Oper.semAt_some

/-- A slice that holds a list of spans, and their error, are handed back. -/
def RetSpans (xs : List (Int × Int)) (q : Int) (w : World) (e : Ending) (w' : World) : Prop := ∃ v, e = .returned (.tuple #[v, .int .i64 q]) ∧ Rd w' 2 v (spanRows xs) ∧ Below w.heap.size w w'

theorem rd_nil (w : World) (k : Nat) : Rd w k (.slice none 0 0) [] := ⟨none, 0, rfl, by simp, by simp, by simp, fun h => by simp at h⟩

/-- The spans of some points. -/
def wL (M : Tab) {n : Nat} (pre : List (Pts n)) : List (Int × Int) := pre.map fun x => (-M 7 x.1, M x.1 7)

theorem wL_snoc (M : Tab) {n : Nat} (pre : List (Pts n)) (x : Pts n) : wL M (pre ++ [x]) = wL M pre ++ [(-M 7 x.1, M x.1 7)] := by simp [wL]
theorem spanRows_snoc (l : List (Int × Int)) (p q : Int) : (spanRows (l ++ [(p, q)])).flatten = (spanRows l).flatten ++ [.int .i64 p, .int .i64 q] := by simp [spanRows]
theorem wL_pts (M : Tab) (n k : Nat) (h : k ≤ n) : wL M (ptsTo n k h) = (List.range k).map fun i => (-M 7 i, M i 7) := by
  induction k with
  | zero => rfl
  | succ k ih => rw [ptsTo, wL_snoc, ih, List.range_succ, List.map_append]; rfl

theorem infoSpan : (Tryz.prog.info? 23).map (fun i => (i.zero, i.size, i.bytes)) = some (some (.agg #[.int .i64 0, .int .i64 0]), 2, 16) := by kernel_rfl

set_option maxRecDepth 100000 in
set_option maxHeartbeats 2000000 in
theorem weights_any (err : Int) (ss : List Stp) (rs : List Int) (v rv : Value) (w : World) (h : Rd w 4 v (stpRows ss)) (hr : Rd w 1 rv (ints rs)) (hs : NamesFit ss) :
    Calls Tryz.prog 11 #[.agg #[.int .i64 err, v], rv] w (RetSpans (wAt err ss rs) (wErr err ss rs) w) := by
  have hB := Below.refl w.heap.size w
  have HR := Lib.hid h
  have HQ := Lib.hid hr
  have HS := Lib.hid hs
  obtain ⟨a, c, rfl, -, hm, -⟩ := h
  obtain ⟨a', c', rfl, -, hm', -⟩ := hr
  have hsl := stpRows_length ss
  have hsl' := ints_length rs
  rw [hsl] at HR hm ⊢
  rw [hsl'] at HQ hm' ⊢
  clear hs hsl hsl'
  refine (callsIn_wide (n := 3)).1 ?_
  refine callsIn_of_wp_marks Tryz.func11 rfl trivial ?_ rfl
  simp only [Tryz.ntmps11, List.size_toArray, List.length_cons, List.length_nil, Nat.reduceAdd, Nat.reduceSub, Array.replicate_succ, Array.replicate_zero, List.push_toArray, List.append_toArray, List.nil_append, List.cons_append]
  refine wpIn_wide.2 ?_
  go_wp2_with fail
  refine (open_any err ss rs _ _ _ (HR.out.below (below_alloc2 _ _ _)) (HQ.out.below (below_alloc2 _ _ _)) HS.out).mono ?_
  rintro e w1 ⟨rfl, hb⟩
  have g0 : w1.cell? ⟨w.heap.size, 0, none⟩ = some (.int .i64 err) := keep hb (by simp [go_sem])
  have hx : Boxed w1 (w.heap.size + 1) 50 (.slice none 0 0) := by
    unfold Boxed
    rw [hb.block _ (by simp)]
    have := World.alloc_heap_new (w.alloc (.cells #[.int .i64 err, .slice a ss.length c] 44)) (.cells #[.slice none 0 0] 50)
    rwa [World.size_alloc] at this
  have hk : Below w.heap.size w w1 := by (repeat (first | assumption | exact Below.refl _ _ | refine Below.alloc ?_ (by (try simp) <;> omega) _ | refine below_drewN ?_ _ | refine Below.drew ?_ | refine Below.setCell ?_ (by (try simp) <;> omega) _ | refine Below.trans ?_ (Below.mono (by assumption) (by (try simp) <;> omega))))
  replace hB := hB.trans (hk.mono hB.size)
  have hzw1 := hB.size
  clear hk hb
  have lg := lt_of_cell g0
  have lr := hx.lt
  by_cases hq1 : askErr err ss rs = 0
  · have t1 : (askErr err ss rs != 0) = false := by simp [hq1]
    obtain ⟨hL, hR⟩ := askErr_ok hq1
    rw [openVal_ok hq1]
    have e1 : wErr err ss rs = if sound (closed err ss rs) = true then 0 else 9 := by simp [wErr, hq1]
    rw [hq1] at t1 ⊢
    have E1 := Lib.hid e1
    clear hq1 e1
    have HX := Lib.hid hx
    go_wp2_with fail
    refine (close_any err ss rs _ _ hL hR _ (HR.out.below (hB.trans ((below_alloc1 _ _).mono hB.size))) (HQ.out.below (hB.trans ((below_alloc1 _ _).mono hB.size)))).mono ?_
    rintro e w2 ⟨rfl, hb⟩
    have l0 : w2.cell? ⟨w1.heap.size, 0, none⟩ = some (.int .i64 err) := keep hb (by simp [go_sem])
    have l1 : w2.cell? ⟨w1.heap.size, 1, none⟩ = some (.slice a ss.length c) := keep hb (by simp [go_sem])
    have l2 : w2.cell? ⟨w1.heap.size, 2, none⟩ = some (.slice a' rs.length c') := keep hb (by simp [go_sem])
    replace hb : Below w1.heap.size w1 w2 := (below_alloc1 _ _).trans (hb.mono (by simp))
    replace hx : Boxed w2 (w.heap.size + 1) 50 (.slice none 0 0) := (hb.block _ lr).trans hx
    have hl2 : w1.heap.size < w2.heap.size := lt_of_cell l0
    have hk : Below w1.heap.size w1 w2 := by (repeat (first | assumption | exact Below.refl _ _ | refine Below.alloc ?_ (by (try simp) <;> omega) _ | refine below_drewN ?_ _ | refine Below.drew ?_ | refine Below.setCell ?_ (by (try simp) <;> omega) _ | refine Below.trans ?_ (Below.mono (by assumption) (by (try simp) <;> omega))))
    replace hB := hB.trans (hk.mono hB.size)
    have hzw2 := hB.size
    clear hk hb
    have hbd := closed_bd hL hR
    obtain ⟨M, hM⟩ : ∃ M, closed err ss rs = M := ⟨_, rfl⟩
    rw [hM] at hbd ⊢
    have HM := Lib.hid hM
    clear hM
    by_cases hq4 : sound M = true
    · rw [hq4]
      go_wp2_with ((with_reducible refine wpList_store_fresh (o := ⟨none, .store 104 (.tmp 7) (.tmp 22), _, _, _, _⟩) rfl (.tmp 7) (.tmp 22) rfl w2.heap.size rfl ?hz ?hx M ?hy ?_); (case hz => rfl); (case hx => rfl); (case hy => rfl))
      refine (points_any err _ _ _).mono ?_
      rintro e w3 ⟨rfl, rfl⟩
      go_wp2_with fail
      have hTn : TabAt (w2.alloc (.cells (tabCells M) 104)) w2.heap.size M := World.alloc_heap_new w2 _
      have hT := hTn.alloc (.cells #[.int .i64 err, .slice a ss.length c, .slice a' rs.length c'] 99)
      have hX2 := (hx.alloc (.cells (tabCells M) 104)).alloc (.cells #[.int .i64 err, .slice a ss.length c, .slice a' rs.length c'] 99)
      have p0 : ((w2.alloc (.cells (tabCells M) 104)).alloc (.cells #[.int .i64 err, .slice a ss.length c, .slice a' rs.length c'] 99)).cell? ⟨w2.heap.size + 1, 0, none⟩ = some (.int .i64 err) := by simp [go_sem]
      have p1 : ((w2.alloc (.cells (tabCells M) 104)).alloc (.cells #[.int .i64 err, .slice a ss.length c, .slice a' rs.length c'] 99)).cell? ⟨w2.heap.size + 1, 1, none⟩ = some (.slice a ss.length c) := by simp [go_sem]
      have p2 : ((w2.alloc (.cells (tabCells M) 104)).alloc (.cells #[.int .i64 err, .slice a ss.length c, .slice a' rs.length c'] 99)).cell? ⟨w2.heap.size + 1, 2, none⟩ = some (.slice a' rs.length c') := by simp [go_sem]
      have hsz : ((w2.alloc (.cells (tabCells M) 104)).alloc (.cells #[.int .i64 err, .slice a ss.length c, .slice a' rs.length c'] 99)).heap.size = w2.heap.size + 2 := by simp
      have hB2 : Below w.heap.size w ((w2.alloc (.cells (tabCells M) 104)).alloc (.cells #[.int .i64 err, .slice a ss.length c, .slice a' rs.length c'] 99)) := by (repeat (first | assumption | exact Below.refl _ _ | refine Below.alloc ?_ (by (try simp) <;> omega) _ | refine below_drewN ?_ _ | refine Below.drew ?_ | refine Below.setCell ?_ (by (try simp) <;> omega) _ | refine Below.trans ?_ (Below.mono (by assumption) (by (try simp) <;> omega))))
      obtain ⟨W0, hW0⟩ : ∃ W, (w2.alloc (.cells (tabCells M) 104)).alloc (.cells #[.int .i64 err, .slice a ss.length c, .slice a' rs.length c'] 99) = W := ⟨_, rfl⟩
      rw [hW0] at hT hX2 p0 p1 p2 hsz hB2 ⊢
      have hv2 : Rd W0 4 (.slice a ss.length c) (stpRows ss) := HR.out.below hB2
      have hr2 : Rd W0 1 (.slice a' rs.length c') (ints rs) := HQ.out.below hB2
      have hxl := hx.lt
      have nfo := infoSpan
      clear hTn hx hW0 l0 l1 l2 g0
      refine (wpIn_wide (n := 3)).1 ?_
      refine wpIn_rangeFunc_up (n := 3) (α := Pts rs.length) rfl (by decide) (gf := 89) (lb := #[.pointer (some ⟨w2.heap.size + 1, 0, none⟩)]) rfl trivial (enters_of Tryz.func89 (by kernel_rfl) rfl)
        (points_stops 2 (by decide) (w2.heap.size + 1) W0.heap.size (w.heap.size + 1) err ss rs (.slice a ss.length c) (.slice a' rs.length c') hL hR W0 (by omega) (by omega) (by omega) p0 p1 p2 hv2 ?hvb hr2 ?hrb)
        BelowBut.trans (belowBut_b (by omega)) (fun _ => rfl)
        (fun pre W => (W0.heap.size ≤ W.heap.size ∧ (Below w.heap.size w W ∧ TabAt W w2.heap.size M)) ∧ ∃ v, Boxed W (w.heap.size + 1) 50 v ∧ W.ownsRow W0.heap.size 23 2 v pre.length (spanRows (wL M pre)).flatten)
        (own_list W0.heap.size (w.heap.size + 1) 50 23 2 List.length (fun pre => (spanRows (wL M pre)).flatten) (fun W => Below w.heap.size w W ∧ TabAt W w2.heap.size M)
          (fun W W' _ h hb => ⟨h.1.trans (hb.mono (by omega)), h.2.below2 hb (by omega)⟩))
        ⟨⟨Nat.le_refl _, hB2, hT⟩, _, hX2, rfl, .inl ⟨rfl, rfl⟩⟩
        (fun x _ t => (((t.setIfInBounds 28 (.int .i64 x.1)).setIfInBounds 29 (.agg #[.int .i64 (loAt err ss rs x.1), .int .i64 (hiAt err ss rs x.1)])).setIfInBounds 9 (.int .i64 x.1)))
        (fun _ => [])
        ?assign ?body ?done
      case hvb =>
        intro b o a1 c1 e
        have := rd_base_stps HR.out (by have := hL.len; omega) e
        omega
      case hrb =>
        intro b o a1 c1 e
        have := rd_base_ints HQ.out (by have := hR.len; omega) e
        omega
      case assign =>
        rintro l pre x W K hI hK
        simp only [ptEnc]
        gi_wp2
        exact hK W0.heap.size W (Nat.le_refl _) (KeepsFrom.refl _ _) (BelowBut.refl _ _ _) hI (fun i v hv => by simp at hv)
      case body =>
        rintro l pre x Bx W hl ⟨r, hr⟩ hBx - ⟨⟨hs, hBW, hTW⟩, v, hX, hown⟩ hlt
        have hxr := x.2
        have hr7 : rs.length ≤ 7 := by have := hR.len; have := hL.len; omega
        obtain ⟨i, hi⟩ : ∃ i, x.1 = i := ⟨_, rfl⟩
        rw [hi] at hxr
        have i8 : (i : Int) < 8 := by omega
        have c0 := hTW.cell 7 i (by omega) (by omega)
        have c1 := hTW.cell i 7 (by omega) (by omega)
        have cx := hX.cell
        have hx1 : w.heap.size + 1 < W.heap.size := hX.lt
        have n1 : IntKind.i64.wrap (-M 7 i) = -M 7 i := by have := hbd 7 i; simp [IntKind.wrap, IntKind.bits, IntKind.signed]; omega
        obtain ⟨i0, hi0, hz0, hz1, hz2⟩ := info_parts nfo
        have HOWN := Lib.hid hown
        clear hown
        gi_wp2
        refine wpIn_region_round (by kernel_rfl) rfl (by kernel_rfl) 14 rfl ?_
        ((refine wpAnyIn_take (i := 1) (v := ?_) rfl rfl (by kernel_rfl) ?_ ?_ (fun _ _ _ h => h) ⟨Or.inl ⟨by rfl, ?_⟩, fun _ => rfl⟩ ?_; rotate_left; decide +kernel; decide +kernel; focus (intro w; go_simp; first | done | with_reducible rfl)); (refine wpAnyIn_take (i := 2) (v := ?_) rfl rfl (by kernel_rfl) ?_ ?_ (fun _ _ _ h => h) ⟨Or.inl ⟨by rfl, ?_⟩, fun _ => rfl⟩ ?_; rotate_left; decide +kernel; decide +kernel; focus (intro w; go_simp; first | done | with_reducible rfl)); (refine wpAnyIn_take (i := 3) (v := ?_) rfl rfl (by kernel_rfl) ?_ ?_ (fun _ _ _ h => h) ⟨Or.inl ⟨by rfl, ?_⟩, fun _ => rfl⟩ ?_; rotate_left; decide +kernel; decide +kernel; focus (intro w; go_simp; first | done | with_reducible rfl)); (refine wpAnyIn_take (i := 6) (v := ?_) rfl rfl (by kernel_rfl) ?_ ?_ (fun _ _ _ h => h) ⟨Or.inl ⟨by rfl, ?_⟩, fun _ => rfl⟩ ?_; rotate_left; decide +kernel; decide +kernel; focus (intro w; go_simp; first | done | with_reducible rfl)); (refine wpAnyIn_take (i := 7) (v := ?_) rfl rfl (by kernel_rfl) ?_ ?_ (fun _ _ _ h => h) ⟨Or.inl ⟨by rfl, ?_⟩, fun _ => rfl⟩ ?_; rotate_left; decide +kernel; decide +kernel; focus (intro w; go_simp; first | done | with_reducible rfl)); (refine wpAnyIn_take (i := 8) (v := ?_) rfl rfl (by kernel_rfl) ?_ ?_ (fun _ _ _ h => h) ⟨Or.inl ⟨by rfl, ?_⟩, fun _ => rfl⟩ ?_; rotate_left; decide +kernel; decide +kernel; focus (intro w; go_simp; first | done | with_reducible rfl)))
        refine wpAnyIn_ready (rs := [0, 4, 9]) ?_ (by simp) ?_; decide +kernel
        refine AllReadyIn.cons rfl (fun K hK => ?_) ?_
        · (go_simp; refine hK _ _ ?_; clear hK K)
          refine wpAnyIn_ready (rs := [4, 9]) ?_ (by simp) ?_; decide +kernel
          refine AllReadyIn.cons rfl (fun K hK => ?_) ?_
          · (go_simp; refine hK _ _ ?_; clear hK K)
            ((refine wpAnyIn_take (i := 5) (v := ?_) rfl rfl (by kernel_rfl) ?_ ?_ (fun _ _ _ h => h) ⟨Or.inl ⟨by rfl, ?_⟩, fun _ => rfl⟩ ?_; rotate_left; decide +kernel; decide +kernel; focus (intro w; go_simp; first | done | with_reducible rfl)))
            refine wpAnyIn_ready (rs := [9]) ?_ (by simp) ?_; decide +kernel
            refine AllReadyIn.cons rfl (fun K hK => ?_) ?_
            · (go_simp; refine hK _ _ ?_; clear hK K)
              ((refine wpAnyIn_take (i := 10) (v := ?_) rfl rfl (by kernel_rfl) ?_ ?_ (fun _ _ _ h => h) ⟨Or.inl ⟨by rfl, ?_⟩, fun _ => rfl⟩ ?_; rotate_left; decide +kernel; decide +kernel; focus (intro w; go_simp; first | done | with_reducible rfl)))
              refine wpAnyIn_ready (rs := [11]) ?_ (by simp) ?_; decide +kernel
              refine AllReadyIn.cons rfl (fun K hK => ?_) ?_
              · (go_simp; refine hK _ _ ?_; clear hK K)
                refine wpAnyIn_ready (rs := [12]) ?_ (by simp) ?_; decide +kernel
                refine AllReadyIn.cons rfl (fun K hK => ?_) ?_
                · rw [if_pos (by rfl)]
                  refine opIn_append_own _ (.tmp 30) (.tmp 41) 50 rfl W0.heap.size 23 i0 (.agg #[.int .i64 0, .int .i64 0]) 2 16 Tryz.underlying50 hi0 hz0 hz1 hz2 rfl (by decide) v pre.length _ rfl (HOWN.out.alloc _) ⟨W.heap.size, 0, none⟩ 1 1 [.int .i64 (-M 7 i), .int .i64 (M i 7)] rfl rfl ?c1 ?c2 ?c3 ?c4 ?c5 ?_
                  case c1 => exact cells_new W _ _ _ rfl
                  case c2 => simp [Value.oneCell']
                  case c3 => unfold maxLen; omega
                  case c4 => omega
                  case c5 => simp; omega
                  intro v' w3 hown3 hg3
                  obtain ⟨g3, cap3, rfl⟩ := ownsRow_succ hown3
                  obtain ⟨y1, y2, y3, y4, y5, y6⟩ := list_appended (W := W.drew) (tmp := .cells #[.int .i64 (-M 7 i), .int .i64 (M i 7)] 23) (by omega) hs hX HOWN.out hown3 hg3
                  have y2' : Below W0.heap.size W w3 := ⟨y2.os, y2.tape, y2.output, y2.size, y2.block⟩
                  have y1c := y1.cell
                  have y1f := y1.frozen
                  have HY4 := Lib.hid y4
                  clear y4 hown3 hg3
                  refine hK _ _ ?_
                  clear hK K
                  refine wpAnyIn_ready (rs := [13]) ?_ (by simp) ?_; decide +kernel
                  refine AllReadyIn.cons rfl (fun K hK => ?_) ?_
                  · (go_simp; refine hK _ _ ?_; clear hK K)
                    refine wpAnyIn_done ?_ ?_ _; decide +kernel
                    refine ⟨⟨y5.size, fun k o _ h1 h2 => y5.same k o h1 h2⟩, ⟨y6.size, fun k hk hx => y6.block k hk hx⟩, ⟨⟨?_, ?_, ?_⟩, _, y3, ?_⟩⟩
                    · exact Nat.le_trans hs y6.size
                    · exact (hBW.trans (Below.mono y2' (by omega))).setCell (p := ⟨w.heap.size + 1, 0, none⟩) (by simp) _
                    · exact (hTW.below2 y2' (by omega)).other (by omega)
                    · rw [List.length_append, List.length_singleton, wL_snoc, hi, spanRows_snoc]; exact HY4.out
                  exact AllReadyIn.nil
                exact AllReadyIn.nil
              exact AllReadyIn.nil
            exact AllReadyIn.nil
          refine AllReadyIn.cons rfl (fun K hK => ?_) ?_
          · (go_simp; refine hK _ _ ?_; clear hK K)
            refine wpAnyIn_ready (rs := [4]) ?_ (by simp) ?_; decide +kernel
            refine AllReadyIn.cons rfl (fun K hK => ?_) ?_
            · (go_simp; refine hK _ _ ?_; clear hK K)
              ((refine wpAnyIn_take (i := 5) (v := ?_) rfl rfl (by kernel_rfl) ?_ ?_ (fun _ _ _ h => h) ⟨Or.inl ⟨by rfl, ?_⟩, fun _ => rfl⟩ ?_; rotate_left; decide +kernel; decide +kernel; focus (intro w; go_simp; first | done | with_reducible rfl)); (refine wpAnyIn_take (i := 10) (v := ?_) rfl rfl (by kernel_rfl) ?_ ?_ (fun _ _ _ h => h) ⟨Or.inl ⟨by rfl, ?_⟩, fun _ => rfl⟩ ?_; rotate_left; decide +kernel; decide +kernel; focus (intro w; go_simp; first | done | with_reducible rfl)))
              refine wpAnyIn_ready (rs := [11]) ?_ (by simp) ?_; decide +kernel
              refine AllReadyIn.cons rfl (fun K hK => ?_) ?_
              · (go_simp; refine hK _ _ ?_; clear hK K)
                refine wpAnyIn_ready (rs := [12]) ?_ (by simp) ?_; decide +kernel
                refine AllReadyIn.cons rfl (fun K hK => ?_) ?_
                · rw [if_pos (by rfl)]
                  refine opIn_append_own _ (.tmp 30) (.tmp 41) 50 rfl W0.heap.size 23 i0 (.agg #[.int .i64 0, .int .i64 0]) 2 16 Tryz.underlying50 hi0 hz0 hz1 hz2 rfl (by decide) v pre.length _ rfl (HOWN.out.alloc _) ⟨W.heap.size, 0, none⟩ 1 1 [.int .i64 (-M 7 i), .int .i64 (M i 7)] rfl rfl ?c1 ?c2 ?c3 ?c4 ?c5 ?_
                  case c1 => exact cells_new W _ _ _ rfl
                  case c2 => simp [Value.oneCell']
                  case c3 => unfold maxLen; omega
                  case c4 => omega
                  case c5 => simp; omega
                  intro v' w3 hown3 hg3
                  obtain ⟨g3, cap3, rfl⟩ := ownsRow_succ hown3
                  obtain ⟨y1, y2, y3, y4, y5, y6⟩ := list_appended (W := W.drew) (tmp := .cells #[.int .i64 (-M 7 i), .int .i64 (M i 7)] 23) (by omega) hs hX HOWN.out hown3 hg3
                  have y2' : Below W0.heap.size W w3 := ⟨y2.os, y2.tape, y2.output, y2.size, y2.block⟩
                  have y1c := y1.cell
                  have y1f := y1.frozen
                  have HY4 := Lib.hid y4
                  clear y4 hown3 hg3
                  refine hK _ _ ?_
                  clear hK K
                  refine wpAnyIn_ready (rs := [13]) ?_ (by simp) ?_; decide +kernel
                  refine AllReadyIn.cons rfl (fun K hK => ?_) ?_
                  · (go_simp; refine hK _ _ ?_; clear hK K)
                    refine wpAnyIn_done ?_ ?_ _; decide +kernel
                    refine ⟨⟨y5.size, fun k o _ h1 h2 => y5.same k o h1 h2⟩, ⟨y6.size, fun k hk hx => y6.block k hk hx⟩, ⟨⟨?_, ?_, ?_⟩, _, y3, ?_⟩⟩
                    · exact Nat.le_trans hs y6.size
                    · exact (hBW.trans (Below.mono y2' (by omega))).setCell (p := ⟨w.heap.size + 1, 0, none⟩) (by simp) _
                    · exact (hTW.below2 y2' (by omega)).other (by omega)
                    · rw [List.length_append, List.length_singleton, wL_snoc, hi, spanRows_snoc]; exact HY4.out
                  exact AllReadyIn.nil
                exact AllReadyIn.nil
              exact AllReadyIn.nil
            exact AllReadyIn.nil
          exact AllReadyIn.nil
        refine AllReadyIn.cons rfl (fun K hK => ?_) ?_
        · (go_simp; refine hK _ _ ?_; clear hK K)
          ((refine wpAnyIn_take (i := 5) (v := ?_) rfl rfl (by kernel_rfl) ?_ ?_ (fun _ _ _ h => h) ⟨Or.inl ⟨by rfl, ?_⟩, fun _ => rfl⟩ ?_; rotate_left; decide +kernel; decide +kernel; focus (intro w; go_simp; first | done | with_reducible rfl)))
          refine wpAnyIn_ready (rs := [0, 9]) ?_ (by simp) ?_; decide +kernel
          refine AllReadyIn.cons rfl (fun K hK => ?_) ?_
          · (go_simp; refine hK _ _ ?_; clear hK K)
            refine wpAnyIn_ready (rs := [9]) ?_ (by simp) ?_; decide +kernel
            refine AllReadyIn.cons rfl (fun K hK => ?_) ?_
            · (go_simp; refine hK _ _ ?_; clear hK K)
              ((refine wpAnyIn_take (i := 10) (v := ?_) rfl rfl (by kernel_rfl) ?_ ?_ (fun _ _ _ h => h) ⟨Or.inl ⟨by rfl, ?_⟩, fun _ => rfl⟩ ?_; rotate_left; decide +kernel; decide +kernel; focus (intro w; go_simp; first | done | with_reducible rfl)))
              refine wpAnyIn_ready (rs := [11]) ?_ (by simp) ?_; decide +kernel
              refine AllReadyIn.cons rfl (fun K hK => ?_) ?_
              · (go_simp; refine hK _ _ ?_; clear hK K)
                refine wpAnyIn_ready (rs := [12]) ?_ (by simp) ?_; decide +kernel
                refine AllReadyIn.cons rfl (fun K hK => ?_) ?_
                · rw [if_pos (by rfl)]
                  refine opIn_append_own _ (.tmp 30) (.tmp 41) 50 rfl W0.heap.size 23 i0 (.agg #[.int .i64 0, .int .i64 0]) 2 16 Tryz.underlying50 hi0 hz0 hz1 hz2 rfl (by decide) v pre.length _ rfl (HOWN.out.alloc _) ⟨W.heap.size, 0, none⟩ 1 1 [.int .i64 (-M 7 i), .int .i64 (M i 7)] rfl rfl ?c1 ?c2 ?c3 ?c4 ?c5 ?_
                  case c1 => exact cells_new W _ _ _ rfl
                  case c2 => simp [Value.oneCell']
                  case c3 => unfold maxLen; omega
                  case c4 => omega
                  case c5 => simp; omega
                  intro v' w3 hown3 hg3
                  obtain ⟨g3, cap3, rfl⟩ := ownsRow_succ hown3
                  obtain ⟨y1, y2, y3, y4, y5, y6⟩ := list_appended (W := W.drew) (tmp := .cells #[.int .i64 (-M 7 i), .int .i64 (M i 7)] 23) (by omega) hs hX HOWN.out hown3 hg3
                  have y2' : Below W0.heap.size W w3 := ⟨y2.os, y2.tape, y2.output, y2.size, y2.block⟩
                  have y1c := y1.cell
                  have y1f := y1.frozen
                  have HY4 := Lib.hid y4
                  clear y4 hown3 hg3
                  refine hK _ _ ?_
                  clear hK K
                  refine wpAnyIn_ready (rs := [13]) ?_ (by simp) ?_; decide +kernel
                  refine AllReadyIn.cons rfl (fun K hK => ?_) ?_
                  · (go_simp; refine hK _ _ ?_; clear hK K)
                    refine wpAnyIn_done ?_ ?_ _; decide +kernel
                    refine ⟨⟨y5.size, fun k o _ h1 h2 => y5.same k o h1 h2⟩, ⟨y6.size, fun k hk hx => y6.block k hk hx⟩, ⟨⟨?_, ?_, ?_⟩, _, y3, ?_⟩⟩
                    · exact Nat.le_trans hs y6.size
                    · exact (hBW.trans (Below.mono y2' (by omega))).setCell (p := ⟨w.heap.size + 1, 0, none⟩) (by simp) _
                    · exact (hTW.below2 y2' (by omega)).other (by omega)
                    · rw [List.length_append, List.length_singleton, wL_snoc, hi, spanRows_snoc]; exact HY4.out
                  exact AllReadyIn.nil
                exact AllReadyIn.nil
              exact AllReadyIn.nil
            exact AllReadyIn.nil
          refine AllReadyIn.cons rfl (fun K hK => ?_) ?_
          · (go_simp; refine hK _ _ ?_; clear hK K)
            ((refine wpAnyIn_take (i := 10) (v := ?_) rfl rfl (by kernel_rfl) ?_ ?_ (fun _ _ _ h => h) ⟨Or.inl ⟨by rfl, ?_⟩, fun _ => rfl⟩ ?_; rotate_left; decide +kernel; decide +kernel; focus (intro w; go_simp; first | done | with_reducible rfl)))
            refine wpAnyIn_ready (rs := [0, 11]) ?_ (by simp) ?_; decide +kernel
            refine AllReadyIn.cons rfl (fun K hK => ?_) ?_
            · (go_simp; refine hK _ _ ?_; clear hK K)
              refine wpAnyIn_ready (rs := [11]) ?_ (by simp) ?_; decide +kernel
              refine AllReadyIn.cons rfl (fun K hK => ?_) ?_
              · (go_simp; refine hK _ _ ?_; clear hK K)
                refine wpAnyIn_ready (rs := [12]) ?_ (by simp) ?_; decide +kernel
                refine AllReadyIn.cons rfl (fun K hK => ?_) ?_
                · rw [if_pos (by rfl)]
                  refine opIn_append_own _ (.tmp 30) (.tmp 41) 50 rfl W0.heap.size 23 i0 (.agg #[.int .i64 0, .int .i64 0]) 2 16 Tryz.underlying50 hi0 hz0 hz1 hz2 rfl (by decide) v pre.length _ rfl (HOWN.out.alloc _) ⟨W.heap.size, 0, none⟩ 1 1 [.int .i64 (-M 7 i), .int .i64 (M i 7)] rfl rfl ?c1 ?c2 ?c3 ?c4 ?c5 ?_
                  case c1 => exact cells_new W _ _ _ rfl
                  case c2 => simp [Value.oneCell']
                  case c3 => unfold maxLen; omega
                  case c4 => omega
                  case c5 => simp; omega
                  intro v' w3 hown3 hg3
                  obtain ⟨g3, cap3, rfl⟩ := ownsRow_succ hown3
                  obtain ⟨y1, y2, y3, y4, y5, y6⟩ := list_appended (W := W.drew) (tmp := .cells #[.int .i64 (-M 7 i), .int .i64 (M i 7)] 23) (by omega) hs hX HOWN.out hown3 hg3
                  have y2' : Below W0.heap.size W w3 := ⟨y2.os, y2.tape, y2.output, y2.size, y2.block⟩
                  have y1c := y1.cell
                  have y1f := y1.frozen
                  have HY4 := Lib.hid y4
                  clear y4 hown3 hg3
                  refine hK _ _ ?_
                  clear hK K
                  refine wpAnyIn_ready (rs := [13]) ?_ (by simp) ?_; decide +kernel
                  refine AllReadyIn.cons rfl (fun K hK => ?_) ?_
                  · (go_simp; refine hK _ _ ?_; clear hK K)
                    refine wpAnyIn_done ?_ ?_ _; decide +kernel
                    refine ⟨⟨y5.size, fun k o _ h1 h2 => y5.same k o h1 h2⟩, ⟨y6.size, fun k hk hx => y6.block k hk hx⟩, ⟨⟨?_, ?_, ?_⟩, _, y3, ?_⟩⟩
                    · exact Nat.le_trans hs y6.size
                    · exact (hBW.trans (Below.mono y2' (by omega))).setCell (p := ⟨w.heap.size + 1, 0, none⟩) (by simp) _
                    · exact (hTW.below2 y2' (by omega)).other (by omega)
                    · rw [List.length_append, List.length_singleton, wL_snoc, hi, spanRows_snoc]; exact HY4.out
                  exact AllReadyIn.nil
                exact AllReadyIn.nil
              exact AllReadyIn.nil
            refine AllReadyIn.cons rfl (fun K hK => ?_) ?_
            · (go_simp; refine hK _ _ ?_; clear hK K)
              refine wpAnyIn_ready (rs := [0]) ?_ (by simp) ?_; decide +kernel
              refine AllReadyIn.cons rfl (fun K hK => ?_) ?_
              · (go_simp; refine hK _ _ ?_; clear hK K)
                refine wpAnyIn_ready (rs := [12]) ?_ (by simp) ?_; decide +kernel
                refine AllReadyIn.cons rfl (fun K hK => ?_) ?_
                · rw [if_pos (by rfl)]
                  refine opIn_append_own _ (.tmp 30) (.tmp 41) 50 rfl W0.heap.size 23 i0 (.agg #[.int .i64 0, .int .i64 0]) 2 16 Tryz.underlying50 hi0 hz0 hz1 hz2 rfl (by decide) v pre.length _ rfl (HOWN.out.alloc _) ⟨W.heap.size, 0, none⟩ 1 1 [.int .i64 (-M 7 i), .int .i64 (M i 7)] rfl rfl ?c1 ?c2 ?c3 ?c4 ?c5 ?_
                  case c1 => exact cells_new W _ _ _ rfl
                  case c2 => simp [Value.oneCell']
                  case c3 => unfold maxLen; omega
                  case c4 => omega
                  case c5 => simp; omega
                  intro v' w3 hown3 hg3
                  obtain ⟨g3, cap3, rfl⟩ := ownsRow_succ hown3
                  obtain ⟨y1, y2, y3, y4, y5, y6⟩ := list_appended (W := W.drew) (tmp := .cells #[.int .i64 (-M 7 i), .int .i64 (M i 7)] 23) (by omega) hs hX HOWN.out hown3 hg3
                  have y2' : Below W0.heap.size W w3 := ⟨y2.os, y2.tape, y2.output, y2.size, y2.block⟩
                  have y1c := y1.cell
                  have y1f := y1.frozen
                  have HY4 := Lib.hid y4
                  clear y4 hown3 hg3
                  refine hK _ _ ?_
                  clear hK K
                  refine wpAnyIn_ready (rs := [13]) ?_ (by simp) ?_; decide +kernel
                  refine AllReadyIn.cons rfl (fun K hK => ?_) ?_
                  · (go_simp; refine hK _ _ ?_; clear hK K)
                    refine wpAnyIn_done ?_ ?_ _; decide +kernel
                    refine ⟨⟨y5.size, fun k o _ h1 h2 => y5.same k o h1 h2⟩, ⟨y6.size, fun k hk hx => y6.block k hk hx⟩, ⟨⟨?_, ?_, ?_⟩, _, y3, ?_⟩⟩
                    · exact Nat.le_trans hs y6.size
                    · exact (hBW.trans (Below.mono y2' (by omega))).setCell (p := ⟨w.heap.size + 1, 0, none⟩) (by simp) _
                    · exact (hTW.below2 y2' (by omega)).other (by omega)
                    · rw [List.length_append, List.length_singleton, wL_snoc, hi, spanRows_snoc]; exact HY4.out
                  exact AllReadyIn.nil
                exact AllReadyIn.nil
              exact AllReadyIn.nil
            exact AllReadyIn.nil
          exact AllReadyIn.nil
        refine AllReadyIn.cons rfl (fun K hK => ?_) ?_
        · (go_simp; refine hK _ _ ?_; clear hK K)
          refine wpAnyIn_ready (rs := [0, 4]) ?_ (by simp) ?_; decide +kernel
          refine AllReadyIn.cons rfl (fun K hK => ?_) ?_
          · (go_simp; refine hK _ _ ?_; clear hK K)
            refine wpAnyIn_ready (rs := [4]) ?_ (by simp) ?_; decide +kernel
            refine AllReadyIn.cons rfl (fun K hK => ?_) ?_
            · (go_simp; refine hK _ _ ?_; clear hK K)
              ((refine wpAnyIn_take (i := 5) (v := ?_) rfl rfl (by kernel_rfl) ?_ ?_ (fun _ _ _ h => h) ⟨Or.inl ⟨by rfl, ?_⟩, fun _ => rfl⟩ ?_; rotate_left; decide +kernel; decide +kernel; focus (intro w; go_simp; first | done | with_reducible rfl)); (refine wpAnyIn_take (i := 10) (v := ?_) rfl rfl (by kernel_rfl) ?_ ?_ (fun _ _ _ h => h) ⟨Or.inl ⟨by rfl, ?_⟩, fun _ => rfl⟩ ?_; rotate_left; decide +kernel; decide +kernel; focus (intro w; go_simp; first | done | with_reducible rfl)))
              refine wpAnyIn_ready (rs := [11]) ?_ (by simp) ?_; decide +kernel
              refine AllReadyIn.cons rfl (fun K hK => ?_) ?_
              · (go_simp; refine hK _ _ ?_; clear hK K)
                refine wpAnyIn_ready (rs := [12]) ?_ (by simp) ?_; decide +kernel
                refine AllReadyIn.cons rfl (fun K hK => ?_) ?_
                · rw [if_pos (by rfl)]
                  refine opIn_append_own _ (.tmp 30) (.tmp 41) 50 rfl W0.heap.size 23 i0 (.agg #[.int .i64 0, .int .i64 0]) 2 16 Tryz.underlying50 hi0 hz0 hz1 hz2 rfl (by decide) v pre.length _ rfl (HOWN.out.alloc _) ⟨W.heap.size, 0, none⟩ 1 1 [.int .i64 (-M 7 i), .int .i64 (M i 7)] rfl rfl ?c1 ?c2 ?c3 ?c4 ?c5 ?_
                  case c1 => exact cells_new W _ _ _ rfl
                  case c2 => simp [Value.oneCell']
                  case c3 => unfold maxLen; omega
                  case c4 => omega
                  case c5 => simp; omega
                  intro v' w3 hown3 hg3
                  obtain ⟨g3, cap3, rfl⟩ := ownsRow_succ hown3
                  obtain ⟨y1, y2, y3, y4, y5, y6⟩ := list_appended (W := W.drew) (tmp := .cells #[.int .i64 (-M 7 i), .int .i64 (M i 7)] 23) (by omega) hs hX HOWN.out hown3 hg3
                  have y2' : Below W0.heap.size W w3 := ⟨y2.os, y2.tape, y2.output, y2.size, y2.block⟩
                  have y1c := y1.cell
                  have y1f := y1.frozen
                  have HY4 := Lib.hid y4
                  clear y4 hown3 hg3
                  refine hK _ _ ?_
                  clear hK K
                  refine wpAnyIn_ready (rs := [13]) ?_ (by simp) ?_; decide +kernel
                  refine AllReadyIn.cons rfl (fun K hK => ?_) ?_
                  · (go_simp; refine hK _ _ ?_; clear hK K)
                    refine wpAnyIn_done ?_ ?_ _; decide +kernel
                    refine ⟨⟨y5.size, fun k o _ h1 h2 => y5.same k o h1 h2⟩, ⟨y6.size, fun k hk hx => y6.block k hk hx⟩, ⟨⟨?_, ?_, ?_⟩, _, y3, ?_⟩⟩
                    · exact Nat.le_trans hs y6.size
                    · exact (hBW.trans (Below.mono y2' (by omega))).setCell (p := ⟨w.heap.size + 1, 0, none⟩) (by simp) _
                    · exact (hTW.below2 y2' (by omega)).other (by omega)
                    · rw [List.length_append, List.length_singleton, wL_snoc, hi, spanRows_snoc]; exact HY4.out
                  exact AllReadyIn.nil
                exact AllReadyIn.nil
              exact AllReadyIn.nil
            exact AllReadyIn.nil
          refine AllReadyIn.cons rfl (fun K hK => ?_) ?_
          · (go_simp; refine hK _ _ ?_; clear hK K)
            ((refine wpAnyIn_take (i := 5) (v := ?_) rfl rfl (by kernel_rfl) ?_ ?_ (fun _ _ _ h => h) ⟨Or.inl ⟨by rfl, ?_⟩, fun _ => rfl⟩ ?_; rotate_left; decide +kernel; decide +kernel; focus (intro w; go_simp; first | done | with_reducible rfl)); (refine wpAnyIn_take (i := 10) (v := ?_) rfl rfl (by kernel_rfl) ?_ ?_ (fun _ _ _ h => h) ⟨Or.inl ⟨by rfl, ?_⟩, fun _ => rfl⟩ ?_; rotate_left; decide +kernel; decide +kernel; focus (intro w; go_simp; first | done | with_reducible rfl)))
            refine wpAnyIn_ready (rs := [0, 11]) ?_ (by simp) ?_; decide +kernel
            refine AllReadyIn.cons rfl (fun K hK => ?_) ?_
            · (go_simp; refine hK _ _ ?_; clear hK K)
              refine wpAnyIn_ready (rs := [11]) ?_ (by simp) ?_; decide +kernel
              refine AllReadyIn.cons rfl (fun K hK => ?_) ?_
              · (go_simp; refine hK _ _ ?_; clear hK K)
                refine wpAnyIn_ready (rs := [12]) ?_ (by simp) ?_; decide +kernel
                refine AllReadyIn.cons rfl (fun K hK => ?_) ?_
                · rw [if_pos (by rfl)]
                  refine opIn_append_own _ (.tmp 30) (.tmp 41) 50 rfl W0.heap.size 23 i0 (.agg #[.int .i64 0, .int .i64 0]) 2 16 Tryz.underlying50 hi0 hz0 hz1 hz2 rfl (by decide) v pre.length _ rfl (HOWN.out.alloc _) ⟨W.heap.size, 0, none⟩ 1 1 [.int .i64 (-M 7 i), .int .i64 (M i 7)] rfl rfl ?c1 ?c2 ?c3 ?c4 ?c5 ?_
                  case c1 => exact cells_new W _ _ _ rfl
                  case c2 => simp [Value.oneCell']
                  case c3 => unfold maxLen; omega
                  case c4 => omega
                  case c5 => simp; omega
                  intro v' w3 hown3 hg3
                  obtain ⟨g3, cap3, rfl⟩ := ownsRow_succ hown3
                  obtain ⟨y1, y2, y3, y4, y5, y6⟩ := list_appended (W := W.drew) (tmp := .cells #[.int .i64 (-M 7 i), .int .i64 (M i 7)] 23) (by omega) hs hX HOWN.out hown3 hg3
                  have y2' : Below W0.heap.size W w3 := ⟨y2.os, y2.tape, y2.output, y2.size, y2.block⟩
                  have y1c := y1.cell
                  have y1f := y1.frozen
                  have HY4 := Lib.hid y4
                  clear y4 hown3 hg3
                  refine hK _ _ ?_
                  clear hK K
                  refine wpAnyIn_ready (rs := [13]) ?_ (by simp) ?_; decide +kernel
                  refine AllReadyIn.cons rfl (fun K hK => ?_) ?_
                  · (go_simp; refine hK _ _ ?_; clear hK K)
                    refine wpAnyIn_done ?_ ?_ _; decide +kernel
                    refine ⟨⟨y5.size, fun k o _ h1 h2 => y5.same k o h1 h2⟩, ⟨y6.size, fun k hk hx => y6.block k hk hx⟩, ⟨⟨?_, ?_, ?_⟩, _, y3, ?_⟩⟩
                    · exact Nat.le_trans hs y6.size
                    · exact (hBW.trans (Below.mono y2' (by omega))).setCell (p := ⟨w.heap.size + 1, 0, none⟩) (by simp) _
                    · exact (hTW.below2 y2' (by omega)).other (by omega)
                    · rw [List.length_append, List.length_singleton, wL_snoc, hi, spanRows_snoc]; exact HY4.out
                  exact AllReadyIn.nil
                exact AllReadyIn.nil
              exact AllReadyIn.nil
            refine AllReadyIn.cons rfl (fun K hK => ?_) ?_
            · (go_simp; refine hK _ _ ?_; clear hK K)
              refine wpAnyIn_ready (rs := [0]) ?_ (by simp) ?_; decide +kernel
              refine AllReadyIn.cons rfl (fun K hK => ?_) ?_
              · (go_simp; refine hK _ _ ?_; clear hK K)
                refine wpAnyIn_ready (rs := [12]) ?_ (by simp) ?_; decide +kernel
                refine AllReadyIn.cons rfl (fun K hK => ?_) ?_
                · rw [if_pos (by rfl)]
                  refine opIn_append_own _ (.tmp 30) (.tmp 41) 50 rfl W0.heap.size 23 i0 (.agg #[.int .i64 0, .int .i64 0]) 2 16 Tryz.underlying50 hi0 hz0 hz1 hz2 rfl (by decide) v pre.length _ rfl (HOWN.out.alloc _) ⟨W.heap.size, 0, none⟩ 1 1 [.int .i64 (-M 7 i), .int .i64 (M i 7)] rfl rfl ?c1 ?c2 ?c3 ?c4 ?c5 ?_
                  case c1 => exact cells_new W _ _ _ rfl
                  case c2 => simp [Value.oneCell']
                  case c3 => unfold maxLen; omega
                  case c4 => omega
                  case c5 => simp; omega
                  intro v' w3 hown3 hg3
                  obtain ⟨g3, cap3, rfl⟩ := ownsRow_succ hown3
                  obtain ⟨y1, y2, y3, y4, y5, y6⟩ := list_appended (W := W.drew) (tmp := .cells #[.int .i64 (-M 7 i), .int .i64 (M i 7)] 23) (by omega) hs hX HOWN.out hown3 hg3
                  have y2' : Below W0.heap.size W w3 := ⟨y2.os, y2.tape, y2.output, y2.size, y2.block⟩
                  have y1c := y1.cell
                  have y1f := y1.frozen
                  have HY4 := Lib.hid y4
                  clear y4 hown3 hg3
                  refine hK _ _ ?_
                  clear hK K
                  refine wpAnyIn_ready (rs := [13]) ?_ (by simp) ?_; decide +kernel
                  refine AllReadyIn.cons rfl (fun K hK => ?_) ?_
                  · (go_simp; refine hK _ _ ?_; clear hK K)
                    refine wpAnyIn_done ?_ ?_ _; decide +kernel
                    refine ⟨⟨y5.size, fun k o _ h1 h2 => y5.same k o h1 h2⟩, ⟨y6.size, fun k hk hx => y6.block k hk hx⟩, ⟨⟨?_, ?_, ?_⟩, _, y3, ?_⟩⟩
                    · exact Nat.le_trans hs y6.size
                    · exact (hBW.trans (Below.mono y2' (by omega))).setCell (p := ⟨w.heap.size + 1, 0, none⟩) (by simp) _
                    · exact (hTW.below2 y2' (by omega)).other (by omega)
                    · rw [List.length_append, List.length_singleton, wL_snoc, hi, spanRows_snoc]; exact HY4.out
                  exact AllReadyIn.nil
                exact AllReadyIn.nil
              exact AllReadyIn.nil
            exact AllReadyIn.nil
          exact AllReadyIn.nil
        exact AllReadyIn.nil
      case done =>
        rintro D zs W hD rfl ⟨⟨hs, hBW, hTW⟩, v, hX, hown⟩ hK
        rw [wL_pts, ptsTo_len] at hown
        have eL : wAt err ss rs = (List.range rs.length).map fun i => (-M 7 i, M i 7) := by
          have : wErr err ss rs = 0 := by rw [E1.out, HM.out, hq4]; rfl
          simp [wAt, this, wList, HM.out]
        have hown2 := hown
        rw [hR.len] at hown2
        obtain ⟨g3, cap3, rfl⟩ := ownsRow_succ hown2
        rw [← hR.len] at hX hown
        clear hown2
        have hne : some (w.heap.size + 1) ≠ (Value.slice (some ⟨g3, 0, none⟩) rs.length cap3).ownBlock := by
          intro e
          have := (hown.lt _ e.symm).1
          omega
        have cx := hX.cell
        have fx := hX.frozen
        have HOWN := Lib.hid hown
        have EL := Lib.hid eL
        clear hown eL
        gi_wp2
        go_wp2_with fail
        have hK' : (W.setCell ⟨w.heap.size + 1, 0, none⟩ (.slice (some ⟨g3, 0, none⟩) rs.length cap3)).heap[D]? = some (.deferred (some [])) := (heap_setCell_ne (by omega)).trans hK
        have hX' := hX.set (.slice (some ⟨g3, 0, none⟩) rs.length cap3)
        have hO' := HOWN.out.kept (grownBy_setCell' W (w.heap.size + 1) (.slice (some ⟨g3, 0, none⟩) rs.length cap3)) (.inr hne.symm)
        have hB' : Below w.heap.size w (W.setCell ⟨w.heap.size + 1, 0, none⟩ (.slice (some ⟨g3, 0, none⟩) rs.length cap3)) := hBW.setCell (p := ⟨w.heap.size + 1, 0, none⟩) (by simp) _
        obtain ⟨W5, hW5⟩ : ∃ W5, W.setCell ⟨w.heap.size + 1, 0, none⟩ (.slice (some ⟨g3, 0, none⟩) rs.length cap3) = W5 := ⟨_, rfl⟩
        rw [hW5] at hK' hX' hO' hB' ⊢
        refine ⟨by simp, .inl ⟨_, _, rfl, run_takeDeferred hK', ?_⟩⟩
        have hX6 : Boxed (W5.putObj D (.deferred none)) (w.heap.size + 1) 50 (.slice (some ⟨g3, 0, none⟩) rs.length cap3) := (World.putObj_heap_other (by omega)).trans hX'
        have hO6 := ownsRow_putObj hO' (.deferred none) hK' rfl
        have c6 := hX6.cell
        refine ⟨.tuple #[.slice (some ⟨g3, 0, none⟩) rs.length cap3, .int .i64 0], by simp [results, Tryz.results11, go_sem, *], _, by rw [E1.out, HM.out, hq4]; rfl, ?_, hB'.trans ⟨rfl, rfl, rfl, by simp, fun k hk => World.putObj_heap_other (by omega)⟩⟩
        rw [EL.out]
        refine Rd.of_owns (base := W0.heap.size) (e := 23) ?_ (fun r hr => by obtain ⟨z, -, rfl⟩ := List.mem_map.1 hr; rfl)
        rw [spanRows_length, List.length_map, List.length_range]
        exact hO6
    · replace hq4 : sound M = false := by simpa using hq4
      rw [hq4]
      have f1 := hx.frozen
      have c1 := hx.cell
      have lr2 := hx.lt
      go_wp2_with ((with_reducible refine wpList_store_fresh (o := ⟨none, .store 104 (.tmp 7) (.tmp 22), _, _, _, _⟩) rfl (.tmp 7) (.tmp 22) rfl w2.heap.size rfl ?hz ?hx M ?hy ?_); (case hz => rfl); (case hx => rfl); (case hy => rfl))
      refine ⟨.tuple #[.slice none 0 0, .int .i64 9], by simp [results, Tryz.results11, go_sem, *], .slice none 0 0, by rw [E1.out, HM.out, hq4]; rfl, by rw [show wAt err ss rs = [] from by simp [wAt, E1.out, HM.out, hq4]]; exact rd_nil _ _, by (repeat (first | assumption | exact Below.refl _ _ | refine Below.alloc ?_ (by (try simp) <;> omega) _ | refine below_drewN ?_ _ | refine Below.drew ?_ | refine Below.setCell ?_ (by (try simp) <;> omega) _ | refine Below.trans ?_ (Below.mono (by assumption) (by (try simp) <;> omega))))⟩
  · have t1 : (askErr err ss rs != 0) = true := by simp [hq1]
    have e1 : wErr err ss rs = askErr err ss rs := by simp [wErr, hq1]
    have e2 : wAt err ss rs = [] := by simp [wAt, e1, hq1]
    obtain ⟨q0, q1, q2, q3, q4, q5, q6, hov⟩ := openVal_cases err ss rs a a' ss.length rs.length c c'
    rw [hov]
    have E1 := Lib.hid e1
    have E2 := Lib.hid e2
    clear e1 e2 hov hq1
    obtain ⟨q, hq⟩ : ∃ q, askErr err ss rs = q := ⟨_, rfl⟩
    rw [hq] at t1 ⊢
    have HQ1 := Lib.hid hq
    clear hq
    have f1 := hx.frozen
    have c1 := hx.cell
    go_wp2_with fail
    refine ⟨.tuple #[.slice none 0 0, .int .i64 q], by simp [results, Tryz.results11, go_sem, *], .slice none 0 0, by rw [E1.out, HQ1.out], by rw [E2.out]; exact rd_nil _ _, by (repeat (first | assumption | exact Below.refl _ _ | refine Below.alloc ?_ (by (try simp) <;> omega) _ | refine below_drewN ?_ _ | refine Below.drew ?_ | refine Below.setCell ?_ (by (try simp) <;> omega) _ | refine Below.trans ?_ (Below.mono (by assumption) (by (try simp) <;> omega))))⟩

end Go.Proofs.YtcncmlpppabbcaaGreat
