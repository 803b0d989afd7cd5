/- The walk of mould's Warm: how warm each ring can be after some minutes. -/
import Derived.Test.YtcncmlpppabbcaaGreatD34
import Derived.Test.YtcncmlpppabbcaaGreatD3
import Derived.Test.YtcncmlpppabbcaaGreatD7h
import Derived.Test.YtcncmlpppabbcaaGreatD18
import Derived.LoopN
import Derived.OwnWalkIn
import Derived.TacticsInMore
namespace Go.Proofs.YtcncmlpppabbcaaGreat
set_option linter.unusedVariables false
set_option linter.unusedSimpArgs false
open Go.RowKit
attribute [local go_sem] Oper.semAt_some

/-- The warmth at both ends, in one block. -/
def enRow (l l' : Nat → Int) : List Value := [.int .i64 (l 0), .int .i64 (l 1), .int .i64 (l 2), .int .i64 (l 3), .int .i64 (l 4), .int .i64 (l 5), .int .i64 (l 6), .int .i64 (l 7), .int .i64 (l' 0), .int .i64 (l' 1), .int .i64 (l' 2), .int .i64 (l' 3), .int .i64 (l' 4), .int .i64 (l' 5), .int .i64 (l' 6), .int .i64 (l' 7)]
def EnAt (w : World) (B : Nat) (l l' : Nat → Int) : Prop := w.heap[B]? = some (.cells (enRow l l').toArray 124 (0, 0))

theorem EnAt.lt {w : World} {B : Nat} {l l' : Nat → Int} (h : EnAt w B l l') : B < w.heap.size := (Array.getElem?_eq_some_iff.1 h).1
theorem EnAt.cell {w : World} {B : Nat} {l l' : Nat → Int} (h : EnAt w B l l') (i : Nat) : w.cell? ⟨B, i, none⟩ = (enRow l l')[i]? := by
  have := cell_of_row w B i _ 124 (0, 0) h
  simpa using this
theorem EnAt.frozen {w : World} {B : Nat} {l l' : Nat → Int} (h : EnAt w B l l') (o : Nat) : w.frozen? ⟨B, o, none⟩ = false := frozen_of_row h
theorem EnAt.same {w w' : World} {B : Nat} {l l' : Nat → Int} (h : EnAt w B l l') (e : w'.heap[B]? = w.heap[B]?) : EnAt w' B l l' := e.trans h
def set8 (w : World) (B o : Nat) (x : Nat → Int) : World := ((((((((w.setCell ⟨B, o, none⟩ (.int .i64 (x 0))).setCell ⟨B, o + 1, none⟩ (.int .i64 (x 1))).setCell ⟨B, o + 2, none⟩ (.int .i64 (x 2))).setCell ⟨B, o + 3, none⟩ (.int .i64 (x 3))).setCell ⟨B, o + 4, none⟩ (.int .i64 (x 4))).setCell ⟨B, o + 5, none⟩ (.int .i64 (x 5))).setCell ⟨B, o + 6, none⟩ (.int .i64 (x 6))).setCell ⟨B, o + 7, none⟩ (.int .i64 (x 7)))
theorem EnAt.lo {w : World} {B : Nat} {l l' : Nat → Int} (h : EnAt w B l l') (x : Nat → Int) : EnAt (set8 w B 0 x) B x l' := by
  have h0 := heap_setCell_row (k := 0) (v := .int .i64 (x 0)) h
  have h1 := heap_setCell_row (k := 1) (v := .int .i64 (x 1)) h0
  have h2 := heap_setCell_row (k := 2) (v := .int .i64 (x 2)) h1
  have h3 := heap_setCell_row (k := 3) (v := .int .i64 (x 3)) h2
  have h4 := heap_setCell_row (k := 4) (v := .int .i64 (x 4)) h3
  have h5 := heap_setCell_row (k := 5) (v := .int .i64 (x 5)) h4
  have h6 := heap_setCell_row (k := 6) (v := .int .i64 (x 6)) h5
  have h7 := heap_setCell_row (k := 7) (v := .int .i64 (x 7)) h6
  exact h7
theorem EnAt.hi {w : World} {B : Nat} {l l' : Nat → Int} (h : EnAt w B l l') (x : Nat → Int) : EnAt (set8 w B 8 x) B l x := by
  have h0 := heap_setCell_row (k := 8) (v := .int .i64 (x 0)) h
  have h1 := heap_setCell_row (k := 9) (v := .int .i64 (x 1)) h0
  have h2 := heap_setCell_row (k := 10) (v := .int .i64 (x 2)) h1
  have h3 := heap_setCell_row (k := 11) (v := .int .i64 (x 3)) h2
  have h4 := heap_setCell_row (k := 12) (v := .int .i64 (x 4)) h3
  have h5 := heap_setCell_row (k := 13) (v := .int .i64 (x 5)) h4
  have h6 := heap_setCell_row (k := 14) (v := .int .i64 (x 6)) h5
  have h7 := heap_setCell_row (k := 15) (v := .int .i64 (x 7)) h6
  exact h7
theorem set8_other {w : World} {B o b : Nat} {x : Nat → Int} (hb : B ≠ b) : (set8 w B o x).heap[b]? = w.heap[b]? := by
  unfold set8
  rw [heap_setCell_ne hb, heap_setCell_ne hb, heap_setCell_ne hb, heap_setCell_ne hb, heap_setCell_ne hb, heap_setCell_ne hb, heap_setCell_ne hb, heap_setCell_ne hb]
theorem set8_size (w : World) (B o : Nat) (x : Nat → Int) : (set8 w B o x).heap.size = w.heap.size := by
  unfold set8
  simp
theorem set8_below {W w : World} {n B : Nat} (h : Below n W w) (hB : n ≤ B) (o : Nat) (x : Nat → Int) : Below n W (set8 w B o x) :=
  (((((((h.setCell (p := ⟨B, o, none⟩) hB _).setCell (p := ⟨B, o + 1, none⟩) hB _).setCell (p := ⟨B, o + 2, none⟩) hB _).setCell (p := ⟨B, o + 3, none⟩) hB _).setCell (p := ⟨B, o + 4, none⟩) hB _).setCell (p := ⟨B, o + 5, none⟩) hB _).setCell (p := ⟨B, o + 6, none⟩) hB _).setCell (p := ⟨B, o + 7, none⟩) hB _
theorem set8_same {S : Nat → Prop} {A w : World} {B : Nat} (h : SameAt S A w) (hB : ¬ S B) (o : Nat) (x : Nat → Int) : SameAt S A (set8 w B o x) :=
  ⟨by rw [set8_size]; exact h.size, fun b hb hl => (set8_other (fun e => hB (by rw [e]; exact hb))).trans (h.block b hb hl)⟩

theorem EnAt.rd {w : World} {B o n : Nat} {l l' x : Nat → Int} (h : EnAt w B l l') (n8 : n ≤ 8) (hx : ∀ i, i < 8 → (enRow l l')[o + i]? = some (.int .i64 (x i))) : Rd w 1 (.slice (some ⟨B, o, none⟩) n 8) (ints ((List.range n).map x)) := by
  refine ⟨_, _, by rw [ints_length, List.length_map, List.length_range], by simpa [ints] using n8, by simp [ints]; omega, fun r hr => by obtain ⟨z, -, rfl⟩ := List.mem_map.1 hr; rfl, fun _ => ⟨_, _, rfl, h.lt, ?_⟩⟩
  intro j r hj i v hi
  have hjn : j < n := by
    have := (List.getElem?_eq_some_iff.1 hj).1
    simpa [ints] using this
  simp [ints, hjn] at hj
  subst hj
  have hi0 : i = 0 := by
    have := (List.getElem?_eq_some_iff.1 hi).1
    simpa using this
  subst hi0
  simp at hi
  subst hi
  rw [Nat.mul_one, Nat.add_zero, h.cell (o + j)]
  exact hx j (by omega)
theorem Rd.putDef {w : World} {k D : Nat} {v : Value} {rows : List (List Value)} {x : Option (List Deferred)} (h : Rd w k v rows) (hd : w.heap[D]? = some (.deferred x)) (o : Obj) : Rd (w.putObj D o) k v rows := by
  obtain ⟨a, c, hv, hc, hm, hl, hr⟩ := h
  refine ⟨a, c, hv, hc, hm, hl, fun h0 => ?_⟩
  obtain ⟨b, off, ha, hlt, hcell⟩ := hr h0
  refine ⟨b, off, ha, by simpa [World.putObj] using hlt, fun j r hj i v hi => ?_⟩
  have h1 := hcell j r hj i v hi
  have hne : b ≠ D := by
    rintro rfl
    simp [World.cell?, hd] at h1
  rw [World.cell?_of_block (w := w) (World.putObj_heap_other hne)]
  exact h1

/-- What is so behind one side. -/
structure WarmE (w W6 : World) (X : Nat) (l l' : Nat → Int) (W : World) : Prop where
  below : Below w.heap.size w W
  same : SameAt (fun b => b < W6.heap.size ∧ b ≠ X) W6 W
  en : EnAt W X l l'

theorem alloc3 (w : World) (A Y R : Obj) : ∃ W, W = ((w.alloc A).alloc Y).alloc R ∧ W.heap[w.heap.size]? = some A ∧ W.heap[w.heap.size + 1]? = some Y ∧ W.heap[w.heap.size + 1 + 1]? = some R ∧
    W.heap.size = w.heap.size + 1 + 1 + 1 ∧ Below w.heap.size w W := by
  have e1 : (w.alloc A).heap.size = w.heap.size + 1 := by simp
  have e2 : ((w.alloc A).alloc Y).heap.size = w.heap.size + 1 + 1 := by simp
  have hA := heap_alloc_new w A
  have hY := heap_alloc_new (w.alloc A) Y
  have hR := heap_alloc_new ((w.alloc A).alloc Y) R
  rw [e1] at hY
  rw [e2] at hR
  refine ⟨_, rfl, ?_, ?_, hR, by simp, ((Below.refl _ _).alloc (Nat.le_refl _) _).alloc (by simp) _ |>.alloc (by simp; omega) _⟩
  · exact (heap_alloc_old _ _ (by rw [e2]; omega)).trans ((heap_alloc_old _ _ (by rw [e1]; omega)).trans hA)
  · exact (heap_alloc_old _ _ (by rw [e2]; omega)).trans hY
theorem mo_row {w : World} {B : Nat} {m : Mo} (h : w.heap[B]? = some (.cells m.cells 61 (0, 0))) : MoAt w B m :=
  ⟨cell_of_row w _ 0 _ 61 (0, 0) h, cell_of_row w _ 1 _ 61 (0, 0) h, cell_of_row w _ 2 _ 61 (0, 0) h, cell_of_row w _ 3 _ 61 (0, 0) h, cell_of_row w _ 4 _ 61 (0, 0) h, cell_of_row w _ 5 _ 61 (0, 0) h, cell_of_row w _ 6 _ 61 (0, 0) h, cell_of_row w _ 7 _ 61 (0, 0) h, cell_of_row w _ 8 _ 61 (0, 0) h, cell_of_row w _ 9 _ 61 (0, 0) h, cell_of_row w _ 10 _ 61 (0, 0) h, cell_of_row w _ 11 _ 61 (0, 0) h⟩

set_option maxRecDepth 100000 in
set_option maxHeartbeats 4000000 in
theorem warm_ok (m : Mo) (h : chkM m = 0) (n : Nat) (hn : n ≤ 600) (w : World) : Calls Tryz.prog 26 #[.agg m.cells, .int .i64 n] w fun e w' =>
    ∃ v', e = .returned (.tuple #[v', .int .i64 0]) ∧ Rd w' 2 v' (spanRows (((List.range m.rings.toNat).map (stR m m.plo m.wlo n)).zip ((List.range m.rings.toNat).map (stR m m.phi m.whi n)))) ∧ Below w.heap.size w w' := by
  have hm := chkM_ok h
  have ck := checkM_any m
  rw [h] at ck
  have HO := Lib.hid (show anyOut 0 600 [(n : Int)] = false by simp [anyOut, outB]; omega)
  have HB := Lib.hid (below_alloc2 w (.cells m.cells 25) (.cells #[.int .i64 n] 3))
  have HE := Lib.hid (heap_alloc_new (w.alloc (.cells m.cells 25)) (.cells #[.int .i64 n] 3))
  have HA := Lib.hid ((MoAt.new w m 25).below (below_alloc1 _ (.cells #[.int .i64 n] 3)))
  unfold Mo.cells at ck HB HE
  have CK := Lib.hid ck
  have HM := Lib.hid hm
  clear h ck hm
  refine (callsIn_wide (n := 3)).1 ?_
  refine callsIn_of_wp_marks Tryz.func26 rfl trivial ?_ rfl
  unfold Mo.cells
  simp only [Tryz.ntmps26, List.size_toArray, List.length_cons, List.length_nil, Nat.reduceAdd, Nat.reduceSub, Array.replicate_succ, Array.replicate_zero, List.push_toArray, List.append_toArray, List.nil_append, List.cons_append]
  refine wpIn_wide.2 ?_
  go_upto_region 4 with (go_at_call 30; refine (CK.out _).mono ?_; rintro e w1 ⟨rfl, hb⟩)
  rw [show (w.alloc (.cells #[.int .i64 m.rings, .int .i64 m.give, .int .i64 m.plo, .int .i64 m.phi, .int .i64 m.wlo, .int .i64 m.whi, .int .i64 m.set, .int .i64 m.shrink, .int .i64 m.skin, .int .i64 m.fill, .int .i64 m.gap, .int .i64 m.deep] 25)).heap.size = w.heap.size + 1 by simp] at HE
  have hN1 : w1.heap[w.heap.size + 1]? = some (.cells #[.int .i64 n] 3 (0, 0)) := (hb.block _ (by simp)).trans HE.out
  have hA1 := HA.out.below hb
  have hB1 := belT HB.out hb
  have t0 : w1.cell? ⟨w.heap.size + 1, 0, none⟩ = some (.int .i64 n) := cell_of_row w1 _ 0 _ 3 (0, 0) hN1
  have HN1 := Lib.hid hN1
  have HA1 := Lib.hid hA1
  have HB1 := Lib.hid hB1
  clear hb HB HE HA hA1 hB1 hN1 CK
  go_upto_region 6 with (go_at_call 16; refine (outM1 0 600 n _ _ rfl).mono ?_; rw [HO.out]; rintro e w3 ⟨rfl, hb3⟩)
  have HN3 := Lib.hid ((hb3.block _ (Array.getElem?_eq_some_iff.1 HN1.out).1).trans HN1.out)
  have HB3 := Lib.hid (belT HB1.out hb3)
  have l3 : w.heap.size + 1 < w3.heap.size := (Array.getElem?_eq_some_iff.1 HN3.out).1
  obtain ⟨c0, c1, c2, c3, c4, c5, c6, c7, c8, c9, c10, c11⟩ := HA1.out.below hb3
  clear hb3 t0 HN1 HB1 HA1
  go_upto_region 9 with fail
  obtain ⟨W5, hW5, rA, rE, rF, hS5, hB5⟩ := alloc3 w3 (.cells m.cells 61) (.cells (enRow (fun _ => 0) (fun _ => 0)).toArray 124) (.cells #[.func (.func 58) #[] #[], .func (.func 59) #[] #[]] 126)
  change Code.wp _ _ _ _ (((w3.alloc (.cells m.cells 61)).alloc (.cells (enRow (fun _ => 0) (fun _ => 0)).toArray 124)).alloc (.cells #[.func (.func 58) #[] #[], .func (.func 59) #[] #[]] 126))
  rw [← hW5]
  have HN5 := Lib.hid ((hB5.block _ l3).trans HN3.out)
  have HB5 := Lib.hid (belT HB3.out hB5)
  have HR5 := Lib.hid (And.intro rA (And.intro rE rF))
  clear hW5 c0 c1 c2 c3 c4 c5 c6 c7 c8 c9 c10 c11 HN3 HB3 hB5 rA rE rF
  generalize w3.heap.size = B at *
  have hS5' : B + 1 + 1 + 1 = W5.heap.size := hS5.symm
  have HS5 := Lib.hid hS5
  have lB0 : B < W5.heap.size := by omega
  have lB1 : B + 1 < W5.heap.size := by omega
  have lB2 : B + 1 + 1 < W5.heap.size := by omega
  have lN : w.heap.size + 1 < W5.heap.size := by omega
  clear hS5 hS5'
  refine wp_loop_rounds 3 ?_
  rw [rounds_succ]
  have f0 : W5.cell? ⟨B + 1 + 1, 0, none⟩ = some (.func (.func 58) #[] #[]) := cell_of_row W5 _ 0 _ 126 (0, 0) HR5.out.2.2
  obtain ⟨c0, c1, c2, c3, c4, c5, c6, c7, c8, c9, c10, c11⟩ := mo_row HR5.out.1
  go_wp2_with (go_at_call 66; refine (minutes_any m (.func (.func 58) #[] #[]) _ rfl rfl).mono ?_; rintro e wq ⟨rfl, hwq⟩)
  subst hwq
  clear c0 c1 c2 c3 c4 c5 c6 c7 c8 c9 c10 c11 f0
  obtain ⟨W6, hW6, rI, rM, rG, hS6, hB6⟩ := alloc3 W5 (.cells #[.int .i64 0] 3) (.cells m.cells 61) (.cells #[.func (.func 58) #[] #[]] 126)
  change Code.wp _ _ _ _ (((W5.alloc (.cells #[.int .i64 0] 3)).alloc (.cells m.cells 61)).alloc (.cells #[.func (.func 58) #[] #[]] 126))
  rw [← hW6]
  clear hW6
  have HI6 : Hid (Below w.heap.size w W6 ∧ W6.heap[B]? = some (.cells m.cells 61 (0, 0)) ∧ EnAt W6 (B + 1) (fun _ => 0) (fun _ => 0) ∧ W6.heap[B + 1 + 1]? = some (.cells #[.func (.func 58) #[] #[], .func (.func 59) #[] #[]] 126 (0, 0)) ∧ W6.heap[w.heap.size + 1]? = some (.cells #[.int .i64 n] 3 (0, 0)) ∧ W6.heap[W5.heap.size]? = some (.cells #[.int .i64 0] 3 (0, 0))) :=
    Lib.hid ⟨belT HB5.out hB6, (hB6.block _ lB0).trans HR5.out.1, (hB6.block _ lB1).trans HR5.out.2.1, (hB6.block _ lB2).trans HR5.out.2.2, (hB6.block _ lN).trans HN5.out, rI⟩
  have HF6 : Hid (MoAt W6 (W5.heap.size + 1) m ∧ W6.cell? ⟨W5.heap.size + 1 + 1, 0, none⟩ = some (.func (.func 58) #[] #[])) := Lib.hid ⟨mo_row rM, cell_of_row W6 _ 0 _ 126 (0, 0) rG⟩
  have HS6 := Lib.hid hS6
  clear hB6 rI rM rG hS6 HR5 HN5 HB5
  refine (wpIn_wide (n := 3)).1 ?_
  refine wpIn_rangeFunc_low1 (n := 3) rfl (by decide) (gf := 92) (lb := #[.pointer (some ⟨W5.heap.size + 1, 0, none⟩), .pointer (some ⟨W5.heap.size + 1 + 1, 0, none⟩)]) rfl trivial (enters_of Tryz.func92 (by kernel_rfl) rfl)
    (minutes_cold 2 (by decide) m HM.out (W5.heap.size + 1) (W5.heap.size + 1 + 1) W6 HF6.out.1 HF6.out.2) (fun _ => rfl) (fun b hb => by have := HS6.out; rcases hb with rfl | rfl <;> omega)
    (fun k W => Below W6.heap.size W6 W ∧ k ≤ n) (WarmE w W6 (B + 1) (stR m m.plo m.wlo n) (fun _ => 0))
    ?hI ?hE ?h0 ?hIE
    (fun T k a1 W => ∃ Bl, W6.heap.size + 2 ≤ Bl ∧ RgAt W Bl (stR m m.plo m.wlo k) ∧ a1 = { tmps := (((T.setIfInBounds 35 (.int .i64 k)).setIfInBounds 36 (.agg (rgCells (stR m m.plo m.wlo k)))).setIfInBounds 11 (.int .i64 k)).setIfInBounds 12 (.pointer (some ⟨Bl, 0, none⟩)), defers := [] })
    ?assign ?body ?fin
  case hI =>
    rintro k W W' ⟨h1, h2⟩ hb
    exact ⟨h1.trans hb, h2⟩
  case hE =>
    rintro W W' ⟨h1, h2, h3⟩ hb
    have := HS6.out
    exact ⟨h1.trans (hb.mono (by have := HI6.out.1.size; omega)), h2.trans ⟨hb.size, fun b hb' _ => hb.block b hb'.1⟩, h3.same (hb.block _ (by omega))⟩
  case h0 => exact ⟨Below.refl _ _, Nat.zero_le _⟩
  case hIE =>
    rintro W ⟨h1, h2⟩
    omega
  case assign =>
    rintro k W K ⟨h1, h2⟩ hk hz hK
    simp only [minEnc, rgCells]
    gi_wp2
    have hb := below_alloc1 W (.cells (rgCells (stR m m.plo m.wlo k)) 121)
    have hsz : W6.heap.size + 2 ≤ W.heap.size := hz
    refine hK _ _ (SameAt.of_below hb) ⟨h1.trans (hb.mono (by omega)), h2⟩ fun o => ⟨W.heap.size, by omega, ?_, rfl⟩
    exact (World.putObj_heap_other (by omega)).trans (RgAt.new W (stR m m.plo m.wlo k))
  case body =>
    rintro k a1 W ⟨Bl, hBl, hl, rfl⟩ ⟨h1, h2⟩ hk hz
    have hs6 := HS6.out
    have tn : W.cell? ⟨w.heap.size + 1, 0, none⟩ = some (.int .i64 n) := cell_of_row W _ 0 _ 3 (0, 0) ((h1.block _ (by omega)).trans HI6.out.2.2.2.2.1)
    have ti : W.cell? ⟨W5.heap.size, 0, none⟩ = some (.int .i64 0) := cell_of_row W _ 0 _ 3 (0, 0) ((h1.block _ (by omega)).trans HI6.out.2.2.2.2.2)
    have hEn : EnAt W (B + 1) (fun _ => 0) (fun _ => 0) := HI6.out.2.2.1.same (h1.block _ (by omega))
    have H1 := Lib.hid h1
    have HEN := Lib.hid hEn
    have HSS := Lib.hid hs6
    by_cases hkn : k = n
    · have t1 : ((k : Int) == n) = true := by rw [hkn]; simp
      have e0 : W.cell? ⟨B + 1, 0, none⟩ = some (.int .i64 0) := hEn.cell 0
      have e1 : W.cell? ⟨B + 1, 1, none⟩ = some (.int .i64 0) := hEn.cell 1
      have e2 : W.cell? ⟨B + 1, 2, none⟩ = some (.int .i64 0) := hEn.cell 2
      have e3 : W.cell? ⟨B + 1, 3, none⟩ = some (.int .i64 0) := hEn.cell 3
      have e4 : W.cell? ⟨B + 1, 4, none⟩ = some (.int .i64 0) := hEn.cell 4
      have e5 : W.cell? ⟨B + 1, 5, none⟩ = some (.int .i64 0) := hEn.cell 5
      have e6 : W.cell? ⟨B + 1, 6, none⟩ = some (.int .i64 0) := hEn.cell 6
      have e7 : W.cell? ⟨B + 1, 7, none⟩ = some (.int .i64 0) := hEn.cell 7
      have fz := hEn.frozen
      have l0 := hl.cell (i := 0) (by omega)
      have l1 := hl.cell (i := 1) (by omega)
      have l2 := hl.cell (i := 2) (by omega)
      have l3 := hl.cell (i := 3) (by omega)
      have l4 := hl.cell (i := 4) (by omega)
      have l5 := hl.cell (i := 5) (by omega)
      have l6 := hl.cell (i := 6) (by omega)
      have l7 := hl.cell (i := 7) (by omega)
      have HKN := Lib.hid hkn
      clear h1 hEn hl hs6 hkn
      gi_wp2
      have hen8 := HEN.out.lo (stR m m.plo m.wlo k)
      rw [HKN.out] at hen8 ⊢
      exact ⟨set8_same (SameAt.refl _ _) (by have := HSS.out; omega) 0 _, rfl, ⟨set8_below (HI6.out.1.trans (H1.out.mono HI6.out.1.size)) (by omega) 0 _, set8_same ⟨H1.out.size, fun b hb _ => H1.out.block b hb.1⟩ (by omega) 0 _, hen8⟩⟩
    · have t1 : ((k : Int) == n) = false := by rw [beq_eq_false_iff_ne]; omega
      clear h1 hEn hl hs6
      gi_wp2
      exact ⟨SameAt.refl _ _, H1.out, by omega⟩
  case fin =>
    rintro W7 ⟨h1, h2, h3⟩ hd
    have hs6 := HS6.out
    have hz7 := h2.size
    have q0 : W7.heap[B]? = some (.cells m.cells 61 (0, 0)) := (h2.block B ⟨by omega, by omega⟩ (by omega)).trans HI6.out.2.1
    have q2 : W7.heap[B + 1 + 1]? = some (.cells #[.func (.func 58) #[] #[], .func (.func 59) #[] #[]] 126 (0, 0)) := (h2.block _ ⟨by omega, by omega⟩ (by omega)).trans HI6.out.2.2.2.1
    have qn : W7.heap[w.heap.size + 1]? = some (.cells #[.int .i64 n] 3 (0, 0)) := (h2.block _ ⟨by omega, by omega⟩ (by omega)).trans HI6.out.2.2.2.2.1
    have lD : W6.heap.size < W7.heap.size := (Array.getElem?_eq_some_iff.1 hd).1
    have lE : B + 1 < W6.heap.size := by omega
    have lW : w.heap.size ≤ W6.heap.size := HI6.out.1.size
    have lNB : w.heap.size + 1 < B := l3
    have lB0' : B < W7.heap.size := by omega
    have lB1' : B + 1 < W7.heap.size := by omega
    have lB2' : B + 1 + 1 < W7.heap.size := by omega
    have lN' : w.heap.size + 1 < W7.heap.size := by omega
    have HI7 := Lib.hid (And.intro h1 (And.intro q0 (And.intro h3 (And.intro q2 (And.intro qn hd)))))
    have f1 : W7.cell? ⟨B + 1 + 1, 1, none⟩ = some (.func (.func 59) #[] #[]) := cell_of_row W7 _ 1 _ 126 (0, 0) q2
    obtain ⟨c0, c1, c2, c3, c4, c5, c6, c7, c8, c9, c10, c11⟩ := mo_row q0
    clear h1 h2 h3 hd q0 q2 qn HI6 HF6 HS6 hs6 HS5
    go_wp2_with fail
    rw [rounds_succ]
    go_wp2_with (go_at_call 66; refine (minutes_any m (.func (.func 59) #[] #[]) _ rfl rfl).mono ?_; rintro e wq ⟨rfl, hwq⟩)
    subst hwq
    clear c0 c1 c2 c3 c4 c5 c6 c7 c8 c9 c10 c11 f1
    obtain ⟨W8, hW8, rI, rM, rG, hS8, hB8⟩ := alloc3 W7 (.cells #[.int .i64 1] 3) (.cells m.cells 61) (.cells #[.func (.func 59) #[] #[]] 126)
    change Code.wp _ _ _ _ (((W7.alloc (.cells #[.int .i64 1] 3)).alloc (.cells m.cells 61)).alloc (.cells #[.func (.func 59) #[] #[]] 126))
    rw [← hW8]
    clear hW8
    have HI8 : Hid (Below w.heap.size w W8 ∧ W8.heap[B]? = some (.cells m.cells 61 (0, 0)) ∧ EnAt W8 (B + 1) (stR m m.plo m.wlo n) (fun _ => 0) ∧ W8.heap[W6.heap.size]? = some (.deferred (some [])) ∧ W8.heap[w.heap.size + 1]? = some (.cells #[.int .i64 n] 3 (0, 0)) ∧ W8.heap[W7.heap.size]? = some (.cells #[.int .i64 1] 3 (0, 0))) :=
      Lib.hid ⟨belT HI7.out.1 hB8, (hB8.block _ lB0').trans HI7.out.2.1, HI7.out.2.2.1.same (hB8.block _ lB1'), (hB8.block _ lD).trans HI7.out.2.2.2.2.2, (hB8.block _ lN').trans HI7.out.2.2.2.2.1, rI⟩
    have HF8 : Hid (MoAt W8 (W7.heap.size + 1) m ∧ W8.cell? ⟨W7.heap.size + 1 + 1, 0, none⟩ = some (.func (.func 59) #[] #[])) := Lib.hid ⟨mo_row rM, cell_of_row W8 _ 0 _ 126 (0, 0) rG⟩
    have HS8 := Lib.hid hS8
    clear hB8 rI rM rG hS8 HI7
    refine (wpIn_wide (n := 3)).1 ?_
    refine wpIn_rangeFunc_low1 (n := 3) rfl (by decide) (gf := 92) (lb := #[.pointer (some ⟨W7.heap.size + 1, 0, none⟩), .pointer (some ⟨W7.heap.size + 1 + 1, 0, none⟩)]) rfl trivial (enters_of Tryz.func92 (by kernel_rfl) rfl)
      (minutes_hot 2 (by decide) m HM.out (W7.heap.size + 1) (W7.heap.size + 1 + 1) W8 HF8.out.1 HF8.out.2) (fun _ => rfl) (fun b hb => by have := HS8.out; rcases hb with rfl | rfl <;> omega)
      (fun k W => Below W8.heap.size W8 W ∧ k ≤ n) (WarmE w W8 (B + 1) (stR m m.plo m.wlo n) (stR m m.phi m.whi n))
      ?hI ?hE ?h0 ?hIE
      (fun T k a1 W => ∃ Bl, W8.heap.size + 2 ≤ Bl ∧ RgAt W Bl (stR m m.phi m.whi k) ∧ a1 = { tmps := (((T.setIfInBounds 35 (.int .i64 k)).setIfInBounds 36 (.agg (rgCells (stR m m.phi m.whi k)))).setIfInBounds 11 (.int .i64 k)).setIfInBounds 12 (.pointer (some ⟨Bl, 0, none⟩)), defers := [] })
      ?assign ?body ?fin
    case hI =>
      rintro k W W' ⟨h1, h2⟩ hb
      exact ⟨h1.trans hb, h2⟩
    case hE =>
      rintro W W' ⟨h1, h2, h3⟩ hb
      have := HS8.out
      exact ⟨h1.trans (hb.mono (by have := HI8.out.1.size; omega)), h2.trans ⟨hb.size, fun b hb' _ => hb.block b hb'.1⟩, h3.same (hb.block _ (by omega))⟩
    case h0 => exact ⟨Below.refl _ _, Nat.zero_le _⟩
    case hIE =>
      rintro W ⟨h1, h2⟩
      omega
    case assign =>
      rintro k W K ⟨h1, h2⟩ hk hz hK
      simp only [minEnc, rgCells]
      gi_wp2
      have hb := below_alloc1 W (.cells (rgCells (stR m m.phi m.whi k)) 121)
      have hsz : W8.heap.size + 2 ≤ W.heap.size := hz
      refine hK _ _ (SameAt.of_below hb) ⟨h1.trans (hb.mono (by omega)), h2⟩ fun o => ⟨W.heap.size, by omega, ?_, rfl⟩
      exact (World.putObj_heap_other (by omega)).trans (RgAt.new W (stR m m.phi m.whi k))
    case body =>
      rintro k a1 W ⟨Bl, hBl, hl, rfl⟩ ⟨h1, h2⟩ hk hz
      have hs8 := HS8.out
      have tn : W.cell? ⟨w.heap.size + 1, 0, none⟩ = some (.int .i64 n) := cell_of_row W _ 0 _ 3 (0, 0) ((h1.block _ (by omega)).trans HI8.out.2.2.2.2.1)
      have ti : W.cell? ⟨W7.heap.size, 0, none⟩ = some (.int .i64 1) := cell_of_row W _ 0 _ 3 (0, 0) ((h1.block _ (by omega)).trans HI8.out.2.2.2.2.2)
      have hEn : EnAt W (B + 1) (stR m m.plo m.wlo n) (fun _ => 0) := HI8.out.2.2.1.same (h1.block _ (by omega))
      have H1 := Lib.hid h1
      have HEN := Lib.hid hEn
      have HSS := Lib.hid hs8
      by_cases hkn : k = n
      · have t1 : ((k : Int) == n) = true := by rw [hkn]; simp
        have e0 : W.cell? ⟨B + 1, 8, none⟩ = some (.int .i64 0) := hEn.cell 8
        have e1 : W.cell? ⟨B + 1, 9, none⟩ = some (.int .i64 0) := hEn.cell 9
        have e2 : W.cell? ⟨B + 1, 10, none⟩ = some (.int .i64 0) := hEn.cell 10
        have e3 : W.cell? ⟨B + 1, 11, none⟩ = some (.int .i64 0) := hEn.cell 11
        have e4 : W.cell? ⟨B + 1, 12, none⟩ = some (.int .i64 0) := hEn.cell 12
        have e5 : W.cell? ⟨B + 1, 13, none⟩ = some (.int .i64 0) := hEn.cell 13
        have e6 : W.cell? ⟨B + 1, 14, none⟩ = some (.int .i64 0) := hEn.cell 14
        have e7 : W.cell? ⟨B + 1, 15, none⟩ = some (.int .i64 0) := hEn.cell 15
        have fz := hEn.frozen
        have l0 := hl.cell (i := 0) (by omega)
        have l1 := hl.cell (i := 1) (by omega)
        have l2 := hl.cell (i := 2) (by omega)
        have l3 := hl.cell (i := 3) (by omega)
        have l4 := hl.cell (i := 4) (by omega)
        have l5 := hl.cell (i := 5) (by omega)
        have l6 := hl.cell (i := 6) (by omega)
        have l7 := hl.cell (i := 7) (by omega)
        have HKN := Lib.hid hkn
        clear h1 hEn hl hs8 hkn
        gi_wp2
        have hen8 := HEN.out.hi (stR m m.phi m.whi k)
        rw [HKN.out] at hen8 ⊢
        exact ⟨set8_same (SameAt.refl _ _) (by have := HSS.out; omega) 8 _, rfl, ⟨set8_below (HI8.out.1.trans (H1.out.mono HI8.out.1.size)) (by omega) 8 _, set8_same ⟨H1.out.size, fun b hb _ => H1.out.block b hb.1⟩ (by omega) 8 _, hen8⟩⟩
      · have t1 : ((k : Int) == n) = false := by rw [beq_eq_false_iff_ne]; omega
        clear h1 hEn hl hs8
        gi_wp2
        exact ⟨SameAt.refl _ _, H1.out, by omega⟩
    case fin =>
      rintro W9 ⟨h1, h2, h3⟩ hd
      have hs8 := HS8.out
      have q0 : W9.heap[B]? = some (.cells m.cells 61 (0, 0)) := (h2.block B ⟨by omega, by omega⟩ (by omega)).trans HI8.out.2.1
      have qd : W9.heap[W6.heap.size]? = some (.deferred (some [])) := (h2.block _ ⟨by omega, by omega⟩ (by omega)).trans HI8.out.2.2.2.1
      have c0 := (mo_row q0).c0
      have HI9 := Lib.hid (And.intro h1 (And.intro h3 (And.intro qd hd)))
      have HS9 := Lib.hid hs8
      clear h1 h2 h3 hd q0 qd HI8 HF8 HS8 hs8
      go_wp2_with fail
      rw [rounds_succ]
      obtain ⟨rn, hrn⟩ : ∃ rn : Nat, m.rings = rn := ⟨m.rings.toNat, by have := HM.out.rings; omega⟩
      have r1 : 1 ≤ rn := by have := HM.out.rings; omega
      have r8 : rn ≤ 8 := by have := HM.out.rings; omega
      have r8' : (rn : Int) ≤ 8 := by omega
      have er : m.rings.toNat = rn := by omega
      rw [hrn] at c0
      have ER := Lib.hid er
      clear hrn er
      go_upto_region 17 with fail
      go_still_tail 10, (by kernel_rfl)
      change wpList _ _ _ _ _ W9.drew
      have hA : Rd W9.drew 1 (.slice (some ⟨B + 1, 0, none⟩) rn 8) (ints ((List.range rn).map (stR m m.plo m.wlo n))) :=
        EnAt.rd (w := W9.drew) HI9.out.2.1 r8 (fun i hi => by rcases lt8 hi with rfl | rfl | rfl | rfl | rfl | rfl | rfl | rfl <;> rfl)
      have hB : Rd W9.drew 1 (.slice (some ⟨B + 1, 8, none⟩) rn 8) (ints ((List.range rn).map (stR m m.phi m.whi n))) :=
        EnAt.rd (w := W9.drew) HI9.out.2.1 r8 (fun i hi => by rcases lt8 hi with rfl | rfl | rfl | rfl | rfl | rfl | rfl | rfl <;> rfl)
      have hJ := joined_any _ _ _ _ (by simp) (by simp; omega) (by simp; omega) W9.drew hA hB
      have HJ := Lib.hid hJ
      clear hA hB hJ
      go_wp2_with (go_at_call 67; refine HJ.out.mono ?_; rintro e wx ⟨vx, rfl, hrx, hbx⟩)
      rw [ER.out]
      have hb9 : Below W9.heap.size W9 wx := belT (Below.drew (Below.refl _ _)) hbx
      obtain ⟨a1, -, a3, a4⟩ := HI9.out
      have d8 : wx.heap[W8.heap.size]? = some (.deferred (some [])) := (hb9.block _ (Array.getElem?_eq_some_iff.1 a4).1).trans a4
      have d6 : wx.heap[W6.heap.size]? = some (.deferred (some [])) := (hb9.block _ (Array.getElem?_eq_some_iff.1 a3).1).trans a3
      have hs := HS9.out
      have hne : W6.heap.size ≠ W8.heap.size := by omega
      have d6' : (wx.putObj W8.heap.size (.deferred none)).heap[W6.heap.size]? = some (.deferred (some [])) := (World.putObj_heap_other hne).trans d6
      refine ⟨by simp, .inl ⟨_, _, rfl, run_takeDeferred d8, ⟨by simp, .inl ⟨_, _, rfl, run_takeDeferred d6', ?_⟩⟩⟩⟩
      refine ⟨_, by simp [results, Tryz.results26, go_sem], ⟨vx, rfl, (hrx.putDef d8 _).putDef d6' _, ?_⟩⟩
      exact (belT a1 hb9).trans ((below_putObj _ (by omega)).trans (below_putObj _ (by omega)))

end Go.Proofs.YtcncmlpppabbcaaGreat
