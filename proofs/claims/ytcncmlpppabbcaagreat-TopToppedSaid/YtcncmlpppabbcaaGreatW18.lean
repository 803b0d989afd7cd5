/- The walk of 'Cheats'. -/
import Derived.Test.YtcncmlpppabbcaaGreatW16
import Derived.Test.YtcncmlpppabbcaaGreatW17
import Derived.Laws.EntriesVeiled
namespace Go.Proofs.YtcncmlpppabbcaaGreat
set_option linter.unusedVariables false
set_option linter.unusedSimpArgs false
open Go.RowKit Go.Shelf
attribute [local go_sem] Oper.semAt_some

/-- A slice that holds a list of numbers, and their error, are handed back. -/
def RetIntsE (xs : List Int) (q : Int) (w : World) (e : Ending) (w' : World) : Prop := ∃ v, e = .returned (.tuple #[v, .int .i64 q]) ∧ Rd w' 1 v (ints xs) ∧ Below w.heap.size w w'

/-- The points, of some, without whose reading there is a truth. -/
def cL (err : Int) (ss : List Stp) (rs : List Int) {n : Nat} (pre : List (Pts n)) : List Int := (pre.filter fun x => sound (closed err ss (rs.set x.1 (-1)))).map fun x => (x.1 : Int)

/-- What the loop of 'Cheats' reads: the line's box, and the function value's. -/
structure CheatCtx (W : World) (L F : Nat) (err : Int) (v rv : Value) : Prop where
  l0 : W.cell? ⟨L, 0, none⟩ = some (.int .i64 err)
  l1 : W.cell? ⟨L, 1, none⟩ = some v
  l2 : W.cell? ⟨L, 2, none⟩ = some rv
  fn : W.cell? ⟨F, 0, none⟩ = some (.func (.func 69) #[] #[.pointer (some ⟨L, 0, none⟩)])

theorem CheatCtx.below2 {W W' : World} {L F n : Nat} {err : Int} {v rv : Value} (h : CheatCtx W L F err v rv) (hb : Below n W W') (hL : L < n) (hF : F < n) : CheatCtx W' L F err v rv :=
  ⟨(hb.cell (p := ⟨L, 0, none⟩) hL).trans h.l0, (hb.cell (p := ⟨L, 1, none⟩) hL).trans h.l1, (hb.cell (p := ⟨L, 2, none⟩) hL).trans h.l2, (hb.cell (p := ⟨F, 0, none⟩) hF).trans h.fn⟩

theorem ownsRow_below {W W' : World} {base e size k : Nat} {v : Value} {xs : List Value} (h : W.ownsRow base e size v k xs) (hb : Below W.heap.size W W') : W'.ownsRow base e size v k xs := by
  obtain ⟨h1, h2⟩ := h
  rcases h2 with ⟨rfl, h0⟩ | ⟨g, cap, cur, rfl, hg0, hg, hr⟩
  · exact ⟨h1, .inl ⟨rfl, h0⟩⟩
  · exact ⟨h1, .inr ⟨g, cap, cur, rfl, hg0, (hb.block g (Array.getElem?_eq_some_iff.1 hg).1).trans hg, hr⟩⟩

theorem cL_snoc (err : Int) (ss : List Stp) (rs : List Int) {n : Nat} (pre : List (Pts n)) (x : Pts n) : cL err ss rs (pre ++ [x]) = if sound (closed err ss (rs.set x.1 (-1))) = true then cL err ss rs pre ++ [(x.1 : Int)] else cL err ss rs pre := by
  unfold cL
  rw [List.filter_append]
  by_cases h : sound (closed err ss (rs.set x.1 (-1))) = true
  · simp [h]
  · simp [h]
theorem cL_len (err : Int) (ss : List Stp) (rs : List Int) {n : Nat} (pre : List (Pts n)) : (cL err ss rs pre).length ≤ pre.length := by
  unfold cL
  rw [List.length_map]
  exact List.length_filter_le _ _
theorem cL_pts (err : Int) (ss : List Stp) (rs : List Int) (n k : Nat) (h : k ≤ n) : cL err ss rs (ptsTo n k h) = cheatsTo err ss rs k := by
  induction k with
  | zero => rfl
  | succ k ih =>
    rw [ptsTo, cL_snoc, ih]
    unfold cheatsTo
    rw [List.range_succ, List.filter_append]
    by_cases h : sound (closed err ss (rs.set k (-1))) = true
    · simp [h]
    · simp [h]

set_option maxRecDepth 100000 in
set_option maxHeartbeats 2000000 in
theorem cheats_any (err : Int) (ss : List Stp) (rs : List Int) (v rv : Value) (w : World) (h : Rd w 4 v (stpRows ss)) (hr : Rd w 1 rv (ints rs)) (hs : NamesFit ss) :
    Calls Tryz.prog 37 #[.agg #[.int .i64 err, v], rv] w (RetIntsE (cAt err ss rs) (cErr err ss rs) w) := by
  have hB := Below.refl w.heap.size w
  have HR := Lib.hid h
  have HQ := Lib.hid hr
  have HS := Lib.hid hs
  obtain ⟨a, c, rfl, -, hm, -⟩ := h
  obtain ⟨a', c', rfl, -, hm', -⟩ := hr
  have hsl := stpRows_length ss
  have hsl' := ints_length rs
  rw [hsl] at HR hm ⊢
  rw [hsl'] at HQ hm' ⊢
  clear hs hsl hsl'
  refine (callsIn_wide (n := 9)).1 ?_
  refine callsIn_of_wp_marks Tryz.func37 rfl trivial ?_ rfl
  simp only [Tryz.ntmps37, List.size_toArray, List.length_cons, List.length_nil, Nat.reduceAdd, Nat.reduceSub, Array.replicate_succ, Array.replicate_zero, List.push_toArray, List.append_toArray, List.nil_append, List.cons_append]
  refine wpIn_wide.2 ?_
  go_wp2_with fail
  refine (open_any err ss rs _ _ _ (HR.out.below (below_alloc2 _ _ _)) (HQ.out.below (below_alloc2 _ _ _)) HS.out).mono ?_
  rintro e w1 ⟨rfl, hb⟩
  have g0 : w1.cell? ⟨w.heap.size, 0, none⟩ = some (.int .i64 err) := keep hb (by simp [go_sem])
  have hx : Boxed w1 (w.heap.size + 1) 26 (.slice none 0 0) := by
    unfold Boxed
    rw [hb.block _ (by simp)]
    have := World.alloc_heap_new (w.alloc (.cells #[.int .i64 err, .slice a ss.length c] 44)) (.cells #[.slice none 0 0] 26)
    rwa [World.size_alloc] at this
  have hk : Below w.heap.size w w1 := by (repeat (first | assumption | exact Below.refl _ _ | refine Below.alloc ?_ (by (try simp) <;> omega) _ | refine below_drewN ?_ _ | refine Below.drew ?_ | refine Below.setCell ?_ (by (try simp) <;> omega) _ | refine Below.trans ?_ (Below.mono (by assumption) (by (try simp) <;> omega))))
  replace hB := hB.trans (hk.mono hB.size)
  have hzw1 := hB.size
  clear hk hb
  have lg := lt_of_cell g0
  have lr := hx.lt
  by_cases hq1 : askErr err ss rs = 0
  · have t1 : (askErr err ss rs != 0) = false := by simp [hq1]
    obtain ⟨hL, hR⟩ := askErr_ok hq1
    rw [openVal_ok hq1]
    have e1 : cErr err ss rs = if sound (closed err ss rs) = true then 4 else if cheatsTo err ss rs rs.length = [] then 9 else 0 := by simp [cErr, hq1]
    rw [hq1] at t1 ⊢
    have E1 := Lib.hid e1
    clear hq1 e1
    have HX := Lib.hid hx
    go_wp2_with fail
    refine (close_any err ss rs _ _ hL hR _ (HR.out.below (hB.trans ((below_alloc1 _ _).mono hB.size))) (HQ.out.below (hB.trans ((below_alloc1 _ _).mono hB.size)))).mono ?_
    rintro e w2 ⟨rfl, hb⟩
    have l0 : w2.cell? ⟨w1.heap.size, 0, none⟩ = some (.int .i64 err) := keep hb (by simp [go_sem])
    have l1 : w2.cell? ⟨w1.heap.size, 1, none⟩ = some (.slice a ss.length c) := keep hb (by simp [go_sem])
    have l2 : w2.cell? ⟨w1.heap.size, 2, none⟩ = some (.slice a' rs.length c') := keep hb (by simp [go_sem])
    replace hb : Below w1.heap.size w1 w2 := (below_alloc1 _ _).trans (hb.mono (by simp))
    replace hx : Boxed w2 (w.heap.size + 1) 26 (.slice none 0 0) := (hb.block _ lr).trans hx
    have hl2 : w1.heap.size < w2.heap.size := lt_of_cell l0
    have hk : Below w1.heap.size w1 w2 := by (repeat (first | assumption | exact Below.refl _ _ | refine Below.alloc ?_ (by (try simp) <;> omega) _ | refine below_drewN ?_ _ | refine Below.drew ?_ | refine Below.setCell ?_ (by (try simp) <;> omega) _ | refine Below.trans ?_ (Below.mono (by assumption) (by (try simp) <;> omega))))
    replace hB := hB.trans (hk.mono hB.size)
    have hzw2 := hB.size
    clear hk hb
    obtain ⟨M, hM⟩ : ∃ M, closed err ss rs = M := ⟨_, rfl⟩
    rw [hM] at E1 ⊢
    clear hM
    by_cases hq4 : sound M = true
    · rw [hq4]
      have f1 := hx.frozen
      have c1 := hx.cell
      have lr2 := hx.lt
      go_wp2_with ((with_reducible refine wpList_store_fresh (o := ⟨none, .store 104 (.tmp 7) (.tmp 23), _, _, _, _⟩) rfl (.tmp 7) (.tmp 23) rfl w2.heap.size rfl ?hz ?hx M ?hy ?_); (case hz => rfl); (case hx => rfl); (case hy => rfl))
      refine ⟨.tuple #[.slice none 0 0, .int .i64 4], by simp [results, Tryz.results37, go_sem, *], .slice none 0 0, by rw [E1.out, hq4]; rfl, by rw [show cAt err ss rs = [] from by simp [cAt, E1.out, hq4]]; exact rd_nil _ _, by (repeat (first | assumption | exact Below.refl _ _ | refine Below.alloc ?_ (by (try simp) <;> omega) _ | refine below_drewN ?_ _ | refine Below.drew ?_ | refine Below.setCell ?_ (by (try simp) <;> omega) _ | refine Below.trans ?_ (Below.mono (by assumption) (by (try simp) <;> omega))))⟩
    · replace hq4 : sound M = false := by simpa using hq4
      rw [hq4]
      go_wp2_with ((with_reducible refine wpList_store_fresh (o := ⟨none, .store 104 (.tmp 7) (.tmp 23), _, _, _, _⟩) rfl (.tmp 7) (.tmp 23) rfl w2.heap.size rfl ?hz ?hx M ?hy ?_); (case hz => rfl); (case hx => rfl); (case hy => rfl))
      refine (points_any err _ _ _).mono ?_
      rintro e w3 ⟨rfl, rfl⟩
      go_wp2_with fail
      have hX2 := ((hx.alloc (.cells (tabCells M) 104)).alloc (.cells #[.func (.func 69) #[] #[.pointer (some ⟨w1.heap.size, 0, none⟩)]] 70)).alloc (.cells #[.int .i64 err, .slice a ss.length c, .slice a' rs.length c'] 99)
      have hkk : Below w2.heap.size w2 (((w2.alloc (.cells (tabCells M) 104)).alloc (.cells #[.func (.func 69) #[] #[.pointer (some ⟨w1.heap.size, 0, none⟩)]] 70)).alloc (.cells #[.int .i64 err, .slice a ss.length c, .slice a' rs.length c'] 99)) := (below_alloc2 _ _ _).trans ((below_alloc1 _ _).mono (by simp; omega))
      have hfn : (((w2.alloc (.cells (tabCells M) 104)).alloc (.cells #[.func (.func 69) #[] #[.pointer (some ⟨w1.heap.size, 0, none⟩)]] 70)).alloc (.cells #[.int .i64 err, .slice a ss.length c, .slice a' rs.length c'] 99)).cell? ⟨w2.heap.size + 1, 0, none⟩ = some (.func (.func 69) #[] #[.pointer (some ⟨w1.heap.size, 0, none⟩)]) := by simp [go_sem]
      have hC : CheatCtx _ w1.heap.size (w2.heap.size + 1) err (.slice a ss.length c) (.slice a' rs.length c') := ⟨keep hkk l0, keep hkk l1, keep hkk l2, hfn⟩
      have p0 : (((w2.alloc (.cells (tabCells M) 104)).alloc (.cells #[.func (.func 69) #[] #[.pointer (some ⟨w1.heap.size, 0, none⟩)]] 70)).alloc (.cells #[.int .i64 err, .slice a ss.length c, .slice a' rs.length c'] 99)).cell? ⟨w2.heap.size + 1 + 1, 0, none⟩ = some (.int .i64 err) := by simp [go_sem]
      have p1 : (((w2.alloc (.cells (tabCells M) 104)).alloc (.cells #[.func (.func 69) #[] #[.pointer (some ⟨w1.heap.size, 0, none⟩)]] 70)).alloc (.cells #[.int .i64 err, .slice a ss.length c, .slice a' rs.length c'] 99)).cell? ⟨w2.heap.size + 1 + 1, 1, none⟩ = some (.slice a ss.length c) := by simp [go_sem]
      have p2 : (((w2.alloc (.cells (tabCells M) 104)).alloc (.cells #[.func (.func 69) #[] #[.pointer (some ⟨w1.heap.size, 0, none⟩)]] 70)).alloc (.cells #[.int .i64 err, .slice a ss.length c, .slice a' rs.length c'] 99)).cell? ⟨w2.heap.size + 1 + 1, 2, none⟩ = some (.slice a' rs.length c') := by simp [go_sem]
      have hsz : (((w2.alloc (.cells (tabCells M) 104)).alloc (.cells #[.func (.func 69) #[] #[.pointer (some ⟨w1.heap.size, 0, none⟩)]] 70)).alloc (.cells #[.int .i64 err, .slice a ss.length c, .slice a' rs.length c'] 99)).heap.size = w2.heap.size + 3 := by simp
      have hB2 := hB.trans (hkk.mono hB.size)
      obtain ⟨W0, hW0⟩ : ∃ W, ((w2.alloc (.cells (tabCells M) 104)).alloc (.cells #[.func (.func 69) #[] #[.pointer (some ⟨w1.heap.size, 0, none⟩)]] 70)).alloc (.cells #[.int .i64 err, .slice a ss.length c, .slice a' rs.length c'] 99) = W := ⟨_, rfl⟩
      rw [hW0] at hC hX2 p0 p1 p2 hsz hB2 ⊢
      have hv2 : Rd W0 4 (.slice a ss.length c) (stpRows ss) := HR.out.below hB2
      have hr2 : Rd W0 1 (.slice a' rs.length c') (ints rs) := HQ.out.below hB2
      have hxl := hx.lt
      clear hkk hfn hx hW0 l0 l1 l2 g0
      refine (wpIn_wide (n := 9)).1 ?_
      refine wpIn_rangeFunc_up (n := 9) (α := Pts rs.length) rfl (by decide) (gf := 89) (lb := #[.pointer (some ⟨w2.heap.size + 1 + 1, 0, none⟩)]) rfl trivial (enters_of Tryz.func89 (by kernel_rfl) rfl)
        (points_stops 8 (by decide) (w2.heap.size + 1 + 1) W0.heap.size (w.heap.size + 1) err ss rs (.slice a ss.length c) (.slice a' rs.length c') hL hR W0 (by omega) (by omega) (by omega) p0 p1 p2 hv2 ?hvb hr2 ?hrb)
        BelowBut.trans (belowBut_b (by omega)) (fun _ => rfl)
        (fun pre W => (W0.heap.size ≤ W.heap.size ∧ (Below w.heap.size w W ∧ CheatCtx W w1.heap.size (w2.heap.size + 1) err (.slice a ss.length c) (.slice a' rs.length c'))) ∧ ∃ v, Boxed W (w.heap.size + 1) 26 v ∧ W.ownsRow W0.heap.size 3 1 v (cL err ss rs pre).length (ints (cL err ss rs pre)).flatten)
        (own_list W0.heap.size (w.heap.size + 1) 26 3 1 (fun pre => (cL err ss rs pre).length) (fun pre => (ints (cL err ss rs pre)).flatten) (fun W => Below w.heap.size w W ∧ CheatCtx W w1.heap.size (w2.heap.size + 1) err (.slice a ss.length c) (.slice a' rs.length c'))
          (fun W W' _ h hb => ⟨h.1.trans (hb.mono (by omega)), h.2.below2 hb (by omega) (by omega)⟩))
        ⟨⟨Nat.le_refl _, hB2, hC⟩, _, hX2, rfl, .inl ⟨rfl, rfl⟩⟩
        (fun x _ t => (((t.setIfInBounds 29 (.int .i64 x.1)).setIfInBounds 30 (.agg #[.int .i64 (loAt err ss rs x.1), .int .i64 (hiAt err ss rs x.1)])).setIfInBounds 10 (.int .i64 x.1)))
        (fun _ => [])
        ?assign ?body ?done
      case hvb =>
        intro b o a1 c1 e
        have := rd_base_stps HR.out (by have := hL.len; omega) e
        omega
      case hrb =>
        intro b o a1 c1 e
        have := rd_base_ints HQ.out (by have := hR.len; omega) e
        omega
      case assign =>
        rintro l pre x W K hI hK
        simp only [ptEnc]
        gi_wp2
        exact hK W0.heap.size W (Nat.le_refl _) (KeepsFrom.refl _ _) (BelowBut.refl _ _ _) hI (fun i v hv => by simp at hv)
      case body =>
        rintro l pre x Bx W hl ⟨r, hr⟩ hBx - ⟨⟨hs, hBW, hC⟩, v, hX, hown⟩ hlt
        have hxr := x.2
        have hr7 : rs.length ≤ 7 := by have := hR.len; have := hL.len; omega
        obtain ⟨i, hi⟩ : ∃ i, x.1 = i := ⟨_, rfl⟩
        rw [hi] at hxr
        have cfn := hC.fn
        gi_wp2
        refine ⟨trivial, ?_⟩
        refine (CallsIn.inRound l ((callsIn_wide (n := _)).2 (cheats1_any err ss rs _ _ w1.heap.size i W (HR.out.below hBW) (HQ.out.below hBW) hL hR hxr hC.l0 hC.l1 hC.l2))).mono ?_
        rintro e W1 ⟨rfl, hb⟩
        have hX1 : Boxed W1 (w.heap.size + 1) 26 v := (hb.block _ hX.lt).trans hX
        have hown1 := ownsRow_below hown hb
        have hC1 := hC.below2 (hb.mono hs) (by omega) (by omega)
        have hs1 : W0.heap.size ≤ W1.heap.size := Nat.le_trans hs hb.size
        have hBW1 : Below w.heap.size w W1 := hBW.trans (hb.mono hBW.size)
        have hbb : Below W0.heap.size W W1 := hb.mono hs
        have hkw : KeepsOthers W W1 := ⟨hb.size, fun k o hk _ => (hb.block k (Array.getElem?_eq_some_iff.1 hk).1).trans hk⟩
        have esn := cL_snoc err ss rs pre x
        rw [hi] at esn
        have hcl := cL_len err ss rs pre
        have ESN := Lib.hid esn
        clear esn hb hown hX hC hBW
        cases hq : sound (closed err ss (rs.set i (-1)))
        · have e1 : cL err ss rs (pre ++ [x]) = cL err ss rs pre := by rw [ESN.out, hq]; rfl
          have HE := Lib.hid e1
          have HOWN := Lib.hid hown1
          clear e1 hown1 hq ESN
          gi_wp2
          refine ⟨hkw.from _, .of_below hbb, ⟨⟨hs1, hBW1, hC1⟩, v, hX1, ?_⟩⟩
          rw [HE.out]
          exact HOWN.out
        · have e1 : cL err ss rs (pre ++ [x]) = cL err ss rs pre ++ [(i : Int)] := by rw [ESN.out, hq]; rfl
          have HE := Lib.hid e1
          have HOWN := Lib.hid hown1
          clear e1 hown1 hq ESN
          have cx := hX1.cell
          have hx1 : w.heap.size + 1 < W1.heap.size := hX1.lt
          obtain ⟨i0, hi0, hz0, hz1, hz2⟩ := info_parts info3
          gi_wp2_with (gi_at_builtin; refine wpListIn_append_own _ rfl (.tmp 34) (.tmp 36) 26 rfl W0.heap.size 3 i0 (.int .i64 0) 1 8 Tryz.underlying26 hi0 hz0 hz1 hz2 rfl (by decide) v (cL err ss rs pre).length _ rfl (HOWN.out.alloc _) ⟨W1.heap.size, 0, none⟩ 1 1 [.int .i64 i] rfl rfl ?c1 ?c2 ?c3 ?c4 ?c5 ?_)
          case c1 => exact cells_new _ _ _ _ rfl
          case c2 => simp [Value.oneCell']
          case c3 => unfold maxLen; omega
          case c4 => omega
          case c5 => simp; omega
          intro v' w3 hown3 hg3 _
          rw [← hsz] at hown3
          obtain ⟨g3, cap3, rfl⟩ := ownsRow_succ hown3
          obtain ⟨y1, y2, y3, y4, y5, y6⟩ := list_appended (by omega) hs1 hX1 HOWN.out hown3 hg3
          have y1c := y1.cell
          have y1f := y1.frozen
          have HY4 := Lib.hid y4
          clear y4 hown3 hg3
          gi_wp2
          refine ⟨(hkw.trans y5).from _, BelowBut.trans (.of_below hbb) y6, ⟨⟨?_, ?_, ?_⟩, _, y3, ?_⟩⟩
          · exact Nat.le_trans hs1 y6.size
          · exact (hBW1.trans (y2.mono (by omega))).setCell (p := ⟨w.heap.size + 1, 0, none⟩) (by simp) _
          · exact ⟨(y6.cell (by dsimp; omega) (by dsimp; omega)).trans hC1.l0, (y6.cell (by dsimp; omega) (by dsimp; omega)).trans hC1.l1, (y6.cell (by dsimp; omega) (by dsimp; omega)).trans hC1.l2, (y6.cell (by dsimp; omega) (by dsimp; omega)).trans hC1.fn⟩
          · rw [HE.out, List.length_append, List.length_singleton]
            have e2 : (ints (cL err ss rs pre ++ [(i : Int)])).flatten = (ints (cL err ss rs pre)).flatten ++ [.int .i64 i] := by simp [ints]
            rw [e2]
            exact HY4.out
      case done =>
        rintro D zs W hD rfl ⟨⟨hs, hBW, hC⟩, v, hX, hown⟩ hK
        gi_wp2
        rw [cL_pts] at hown
        have fin : ∀ (u : Value) (q : Int) (W5 : World), Boxed W5 (w.heap.size + 1) 26 u → W5.heap[D]? = some (.deferred (some [])) → Below w.heap.size w W5 →
            Boxed (W5.putObj D (.deferred none)) (w.heap.size + 1) 26 u ∧ Below w.heap.size w (W5.putObj D (.deferred none)) := fun u q W5 h1 h2 h3 =>
          ⟨(World.putObj_heap_other (by omega)).trans h1, h3.trans ⟨rfl, rfl, rfl, by simp, fun k hk => World.putObj_heap_other (by omega)⟩⟩
        have hB5 : ∀ u, Below w.heap.size w (W.setCell ⟨w.heap.size + 1, 0, none⟩ u) := fun u => hBW.setCell (p := ⟨w.heap.size + 1, 0, none⟩) (by simp) _
        have hK5 : ∀ u, (W.setCell ⟨w.heap.size + 1, 0, none⟩ u).heap[D]? = some (.deferred (some [])) := fun u => (heap_setCell_ne (by omega)).trans hK
        have hX5 : ∀ u, Boxed (W.setCell ⟨w.heap.size + 1, 0, none⟩ u) (w.heap.size + 1) 26 u := fun u => hX.set u
        have HB5 := Lib.hid hB5
        have HK5 := Lib.hid hK5
        have HX5 := Lib.hid hX5
        have FIN := Lib.hid fin
        clear hB5 hK5 hX5 fin
        have fx := hX.frozen
        have cx := hX.cell
        obtain ⟨Z, hZ⟩ : ∃ Z, cheatsTo err ss rs rs.length = Z := ⟨_, rfl⟩
        rw [hZ] at hown
        cases Z with
        | nil =>
          have e1 : cErr err ss rs = 9 := by rw [E1.out, hq4, hZ]; rfl
          have e2 : cAt err ss rs = [] := by simp [cAt, e1]
          have HE1 := Lib.hid e1
          have HE2 := Lib.hid e2
          clear e1 e2 hZ
          have hv0 : ∃ b0 n0, v = .slice b0 0 n0 := by
            rcases hown.2 with ⟨rfl, -⟩ | ⟨g, cap, cur, rfl, -⟩
            · exact ⟨_, _, rfl⟩
            · exact ⟨_, _, rfl⟩
          obtain ⟨b0, n0, rfl⟩ := hv0
          clear hown
          go_wp2_with fail
          refine ⟨by simp, .inl ⟨_, _, rfl, run_takeDeferred (HK5.out _), ?_⟩⟩
          obtain ⟨k1, k2⟩ := FIN.out (.slice none 0 0) 0 _ (HX5.out _) (HK5.out _) (HB5.out _)
          have c6 := k1.cell
          refine ⟨.tuple #[.slice none 0 0, .int .i64 9], by simp [results, Tryz.results37, go_sem, *], _, by rw [HE1.out], by rw [HE2.out]; exact rd_nil _ _, k2⟩
        | cons z Z =>
          have e1 : cErr err ss rs = 0 := by rw [E1.out, hq4, hZ]; rfl
          have e2 : cAt err ss rs = z :: Z := by simp [cAt, e1, hZ]
          have HE1 := Lib.hid e1
          have HE2 := Lib.hid e2
          clear e1 e2 hZ
          have hown2 : W.ownsRow W0.heap.size 3 1 v (Z.length + 1) (ints (z :: Z)).flatten := hown
          obtain ⟨g3, cap3, rfl⟩ := ownsRow_succ hown2
          have hne : some (w.heap.size + 1) ≠ (Value.slice (some ⟨g3, 0, none⟩) (Z.length + 1) cap3).ownBlock := by
            intro e
            have := (hown2.lt _ e.symm).1
            omega
          have hO' := hown2.kept (grownBy_setCell' W (w.heap.size + 1) (.slice (some ⟨g3, 0, none⟩) (Z.length + 1) cap3)) (.inr hne.symm)
          have hO6 := ownsRow_putObj hO' (.deferred none) (HK5.out _) rfl
          have HO6 := Lib.hid hO6
          have z1 : ((Z.length : Int) + 1 == 0) = false := by rw [beq_eq_false_iff_ne]; omega
          clear hown hown2 hne hO' hO6
          go_wp2_with fail
          refine ⟨by simp, .inl ⟨_, _, rfl, run_takeDeferred (HK5.out _), ?_⟩⟩
          obtain ⟨k1, k2⟩ := FIN.out (.slice (some ⟨g3, 0, none⟩) (Z.length + 1) cap3) 0 _ (HX5.out _) (HK5.out _) (HB5.out _)
          have c6 := k1.cell
          refine ⟨.tuple #[.slice (some ⟨g3, 0, none⟩) (Z.length + 1) cap3, .int .i64 0], by simp [results, Tryz.results37, go_sem, *], _, by rw [HE1.out], ?_, k2⟩
          rw [HE2.out]
          refine Rd.of_owns (base := W0.heap.size) (e := 3) ?_ (fun r hr => by obtain ⟨z, -, rfl⟩ := List.mem_map.1 hr; rfl)
          rw [ints_length]
          exact HO6.out
  · have t1 : (askErr err ss rs != 0) = true := by simp [hq1]
    have e1 : cErr err ss rs = askErr err ss rs := by simp [cErr, hq1]
    have e2 : cAt err ss rs = [] := by simp [cAt, e1, hq1]
    obtain ⟨q0, q1, q2, q3, q4, q5, q6, hov⟩ := openVal_cases err ss rs a a' ss.length rs.length c c'
    rw [hov]
    have E1 := Lib.hid e1
    have E2 := Lib.hid e2
    clear e1 e2 hov hq1
    obtain ⟨q, hq⟩ : ∃ q, askErr err ss rs = q := ⟨_, rfl⟩
    rw [hq] at t1 ⊢
    have HQ1 := Lib.hid hq
    clear hq
    have f1 := hx.frozen
    have c1 := hx.cell
    go_wp2_with fail
    refine ⟨.tuple #[.slice none 0 0, .int .i64 q], by simp [results, Tryz.results37, go_sem, *], .slice none 0 0, by rw [E1.out, HQ1.out], by rw [E2.out]; exact rd_nil _ _, by (repeat (first | assumption | exact Below.refl _ _ | refine Below.alloc ?_ (by (try simp) <;> omega) _ | refine below_drewN ?_ _ | refine Below.drew ?_ | refine Below.setCell ?_ (by (try simp) <;> omega) _ | refine Below.trans ?_ (Below.mono (by assumption) (by (try simp) <;> omega))))⟩

end Go.Proofs.YtcncmlpppabbcaaGreat
