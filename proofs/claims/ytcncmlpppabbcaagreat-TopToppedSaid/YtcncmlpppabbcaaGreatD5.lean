/- The warmth of all rings: as a value, in memory; a minute later. Plain facts, and the walk of mould's next. The walk of mould's next: the warmth of all rings a minute later. -/
import Derived.Test.YtcncmlpppabbcaaGreatD3
import Derived.Test.YtcncmlpppabbcaaGreatM11
import Derived.StillTailTactics
namespace Go.Proofs.YtcncmlpppabbcaaGreat
set_option linter.unusedVariables false
set_option linter.unusedSimpArgs false
open Go.RowKit

/-- The warmth of 8 rings. -/
def rgCells (l : Nat → Int) : Array Value := #[.int .i64 (l 0), .int .i64 (l 1), .int .i64 (l 2), .int .i64 (l 3), .int .i64 (l 4), .int .i64 (l 5), .int .i64 (l 6), .int .i64 (l 7)]
theorem lt8 {i : Nat} (h : i < 8) : i = 0 ∨ i = 1 ∨ i = 2 ∨ i = 3 ∨ i = 4 ∨ i = 5 ∨ i = 6 ∨ i = 7 := by omega
theorem rgCells_size (l : Nat → Int) : (rgCells l).size = 8 := rfl
theorem rgCells_get (l : Nat → Int) {i : Nat} (h : i < 8) : (rgCells l)[i]? = some (.int .i64 (l i)) := by
  rcases lt8 h with rfl | rfl | rfl | rfl | rfl | rfl | rfl | rfl <;> rfl
theorem rgCells_congr {l l' : Nat → Int} (h : ∀ i, i < 8 → l i = l' i) : rgCells l = rgCells l' := by
  unfold rgCells
  rw [h 0 (by omega), h 1 (by omega), h 2 (by omega), h 3 (by omega), h 4 (by omega), h 5 (by omega), h 6 (by omega), h 7 (by omega)]
def putR (l : Nat → Int) (k : Nat) (x : Int) : Nat → Int := fun i => if i = k then x else l i
theorem rgCells_put (l : Nat → Int) {k : Nat} (x : Int) (h : k < 8) : (rgCells l).setIfInBounds k (.int .i64 x) = rgCells (putR l k x) := by
  rcases lt8 h with rfl | rfl | rfl | rfl | rfl | rfl | rfl | rfl <;> rfl
theorem rgCells_one (l : Nat → Int) : (rgCells l).all (·.oneCell') = true := by simp [rgCells, Value.oneCell']

/-- A block holds the warmth of all rings. -/
def RgAt (w : World) (B : Nat) (l : Nat → Int) : Prop := w.heap[B]? = some (.cells (rgCells l) 121 (0, 0))
theorem RgAt.lt {w : World} {B : Nat} {l : Nat → Int} (h : RgAt w B l) : B < w.heap.size := (Array.getElem?_eq_some_iff.1 h).1
theorem RgAt.cell {w : World} {B : Nat} {l : Nat → Int} (h : RgAt w B l) {i : Nat} (hi : i < 8) : w.cell? ⟨B, i, none⟩ = some (.int .i64 (l i)) := by
  rw [cell_of_row w B _ _ 121 (0, 0) h]
  exact rgCells_get l hi
theorem RgAt.frozen {w : World} {B : Nat} {l : Nat → Int} (h : RgAt w B l) (o : Nat) : w.frozen? ⟨B, o, none⟩ = false := frozen_of_row h
theorem RgAt.set {w : World} {B : Nat} {l : Nat → Int} (h : RgAt w B l) {k : Nat} (x : Int) (hk : k < 8) : RgAt (w.setCell ⟨B, k, none⟩ (.int .i64 x)) B (putR l k x) := by
  have h' : w.heap[B]? = some (.cells (rgCells l).toList.toArray 121 (0, 0)) := by rw [Array.toArray_toList]; exact h
  have := heap_setCell_row (k := k) (v := .int .i64 x) h'
  unfold RgAt
  rw [this, ← rgCells_put l x hk, ← Array.toList_setIfInBounds, Array.toArray_toList]
theorem RgAt.below {w w' : World} {B : Nat} {l : Nat → Int} (h : RgAt w B l) (hb : Below w.heap.size w w') : RgAt w' B l := by
  unfold RgAt
  rw [hb.block B h.lt]; exact h
theorem RgAt.drew {w : World} {B : Nat} {l : Nat → Int} (h : RgAt w B l) : RgAt w.drew B l := h
theorem RgAt.congr {w : World} {B : Nat} {l l' : Nat → Int} (h : RgAt w B l) (e : ∀ i, i < 8 → l i = l' i) : RgAt w B l' := by
  unfold RgAt
  rw [← rgCells_congr e]; exact h
theorem RgAt.other {w : World} {B b o : Nat} {v : Value} {l : Nat → Int} (h : RgAt w B l) (hne : b ≠ B) : RgAt (w.setCell ⟨b, o, none⟩ v) B l := by
  unfold RgAt
  rw [heap_setCell_ne hne]; exact h
theorem RgAt.new (w : World) (l : Nat → Int) : RgAt (w.alloc (.cells (rgCells l) 121)) w.heap.size l := World.alloc_heap_new w _

theorem size121 (l : Nat → Int) : (Tryz.prog.info? 121).map (·.size) = some (rgCells l).size := by
  rw [rgCells_size]; kernel_rfl
theorem run_load_rg (w : World) (B : Nat) (l : Nat → Int) (h : RgAt w B l) : (loadVar 121 ⟨B, 0, none⟩).run Tryz.prog w = .ok (.agg (rgCells l)) w :=
  run_loadVar_row w B 121 121 (rgCells l) (0, 0) (.array 8 3) h (by kernel_rfl) rfl (size121 l)
theorem wpList_load_rg {ops : Array Oper} {rest : List Oper} {o : Oper} {a : Act} {w : World} {Q : Exit → Act → World → Prop} (hgd : o.guard = none) (x : Operand) (ho : o.op = .load 121 x)
    (B : Nat) (hx : a.eval x = .pointer (some ⟨B, 0, none⟩)) (l : Nat → Int) (hT : RgAt w B l) (h : wpList Tryz.prog ops Q rest (a.put o.dst (.agg (rgCells l))) w) : wpList Tryz.prog ops Q (o :: rest) a w :=
  wpList_load_row hgd 121 x ho B hx 121 (rgCells l) (0, 0) (.array 8 3) hT (by kernel_rfl) rfl (size121 l) h

/-- The warmth is laid into a block. -/
theorem RgAt.over {w : World} {B : Nat} {l : Nat → Int} (h : RgAt w B l) (l' : Nat → Int) : RgAt (w.setRow B (rgCells l')) B l' := by
  unfold RgAt World.setRow
  rw [Array.getElem?_modify, if_pos rfl, show w.heap[B]? = _ from h]
  rfl
theorem setRow_below {w : World} {B n : Nat} {W : World} (h : Below n W w) (hB : n ≤ B) (cs : Array Value) : Below n W (w.setRow B cs) := by
  refine h.trans ⟨rfl, rfl, rfl, by simp [World.setRow], fun k hk => ?_⟩
  unfold World.setRow
  rw [Array.getElem?_modify, if_neg (by omega)]
theorem wpList_store_rg {ops : Array Oper} {rest : List Oper} {o : Oper} {a : Act} {w : World} {Q : Exit → Act → World → Prop} (hgd : o.guard = none) (x y : Operand) (ho : o.op = .store 121 x y)
    (B : Nat) (hx : a.eval x = .pointer (some ⟨B, 0, none⟩)) (l l' : Nat → Int) (hy : a.eval y = .agg (rgCells l')) (hT : RgAt w B l) (h : wpList Tryz.prog ops Q rest (a.put o.dst undef) (w.setRow B (rgCells l'))) : wpList Tryz.prog ops Q (o :: rest) a w :=
  wpList_store_row hgd 121 x y ho B (rgCells l') hx hy 121 (rgCells l) hT (size121 l') (by rw [rgCells_size, rgCells_size]) (rgCells_one l') h
theorem wpList_fresh_rg {ops : Array Oper} {rest : List Oper} {o : Oper} {a : Act} {w0 : World} {z : Array Value} {Q : Exit → Act → World → Prop} (hgd : o.guard = none) (x y : Operand) (ho : o.op = .store 121 x y)
    (B : Nat) (hB : w0.heap.size = B) (hz : z.size = 8) (hx : a.eval x = .pointer (some ⟨B, 0, none⟩)) (l : Nat → Int) (hy : a.eval y = .agg (rgCells l)) (h : wpList Tryz.prog ops Q rest (a.put o.dst undef) (w0.alloc (.cells (rgCells l) 121))) :
    wpList Tryz.prog ops Q (o :: rest) a (w0.alloc (.cells z 121)) := by
  subst hB
  refine wpList_store_row hgd 121 x y ho w0.heap.size (rgCells l) hx hy 121 z (World.alloc_heap_new w0 _) (size121 l) (by rw [hz, rgCells_size]) (rgCells_one l) ?_
  rw [World.setRow_alloc_new]
  exact h

/-- A minute later. -/
def nxt (m : Mo) (l : Nat → Int) (wall : Int) (i : Nat) : Int :=
  if (i : Int) < m.rings then (m.give * ((if 0 < i then l (i - 1) else wall) + (if (i : Int) < m.rings - 1 then l (i + 1) else l i) - 2 * l i) + 1000 * l i) / 1000 else l i

/-- Warmth as it can be. -/
def Warmy (l : Nat → Int) : Prop := ∀ i, 0 ≤ l i ∧ l i ≤ 2000

theorem mix_bd {g b h l : Int} (hg : 1 ≤ g ∧ g ≤ 500) (hb : 0 ≤ b ∧ b ≤ 2000) (hh : 0 ≤ h ∧ h ≤ 2000) (hl : 0 ≤ l ∧ l ≤ 2000) :
    (-2000000 ≤ g * (b + h - 2 * l) ∧ g * (b + h - 2 * l) ≤ 2000000) ∧ 0 ≤ g * (b + h - 2 * l) + 1000 * l ∧ g * (b + h - 2 * l) + 1000 * l ≤ 2000000 := by
  have e : g * (b + h - 2 * l) = g * b + g * h - 2 * (g * l) := by
    rw [Int.mul_sub, Int.mul_add, Int.mul_left_comm]
  have h1 : 0 ≤ g * b := Int.mul_nonneg (by omega) hb.1
  have h2 : 0 ≤ g * h := Int.mul_nonneg (by omega) hh.1
  have h3 : g * b ≤ g * 2000 := Int.mul_le_mul_of_nonneg_left hb.2 (by omega)
  have h4 : g * h ≤ g * 2000 := Int.mul_le_mul_of_nonneg_left hh.2 (by omega)
  have h5 : 0 ≤ g * l := Int.mul_nonneg (by omega) hl.1
  have h6 : g * l ≤ 500 * l := Int.mul_le_mul_of_nonneg_right hg.2 hl.1
  have h7 : (1000 - 2 * g) * l ≤ (1000 - 2 * g) * 2000 := Int.mul_le_mul_of_nonneg_left hl.2 (by omega)
  have h8 : (1000 - 2 * g) * l = 1000 * l - 2 * (g * l) := by rw [Int.sub_mul, Int.mul_assoc]
  rw [e]
  omega

theorem nxt_warmy {m : Mo} (hm : MoOk m) {l : Nat → Int} (hl : Warmy l) {wall : Int} (hw : 0 ≤ wall ∧ wall ≤ 2000) : Warmy (nxt m l wall) := by
  intro i
  unfold nxt
  split
  · have hb : 0 ≤ (if 0 < i then l (i - 1) else wall) ∧ (if 0 < i then l (i - 1) else wall) ≤ 2000 := by
      split
      · exact hl _
      · exact hw
    have hh : 0 ≤ (if (i : Int) < m.rings - 1 then l (i + 1) else l i) ∧ (if (i : Int) < m.rings - 1 then l (i + 1) else l i) ≤ 2000 := by
      split <;> exact hl _
    obtain ⟨-, h1, h2⟩ := mix_bd hm.give hb hh (hl i)
    omega
  · exact hl i

end Go.Proofs.YtcncmlpppabbcaaGreat

namespace Go.Proofs.YtcncmlpppabbcaaGreat
set_option linter.unusedVariables false
set_option linter.unusedSimpArgs false
open Go.RowKit

theorem MoAt.other {w : World} {B b o : Nat} {m : Mo} {v : Value} (h : MoAt w B m) (hne : b ≠ B) : MoAt (w.setCell ⟨b, o, none⟩ v) B m := by
  have hx : ∀ i, (w.setCell ⟨b, o, none⟩ v).cell? ⟨B, i, none⟩ = w.cell? ⟨B, i, none⟩ := fun i => World.cell?_setCell_other _ _ _ _ (by intro h; simp only [Addr.mk.injEq] at h; omega)
  exact ⟨(hx 0).trans h.c0, (hx 1).trans h.c1, (hx 2).trans h.c2, (hx 3).trans h.c3, (hx 4).trans h.c4, (hx 5).trans h.c5, (hx 6).trans h.c6, (hx 7).trans h.c7, (hx 8).trans h.c8, (hx 9).trans h.c9, (hx 10).trans h.c10, (hx 11).trans h.c11⟩

/-- The first k rings are a minute later already. -/
def nxtTo (m : Mo) (l : Nat → Int) (wall : Int) (k : Nat) : Nat → Int := fun i => if i < k then nxt m l wall i else l i
theorem nxtTo_succ (m : Mo) (l : Nat → Int) (wall : Int) (k : Nat) : putR (nxtTo m l wall k) k (nxt m l wall k) = nxtTo m l wall (k + 1) := by
  funext i
  unfold putR nxtTo
  by_cases h : i = k
  · subst h
    rw [if_pos rfl, if_pos (by omega)]
  · rw [if_neg h]
    by_cases h2 : i < k
    · rw [if_pos h2, if_pos (by omega)]
    · rw [if_neg h2, if_neg (by omega)]
theorem nxtTo_all {m : Mo} {l : Nat → Int} {wall : Int} {k : Nat} (hk : (k : Int) = m.rings) : nxtTo m l wall k = nxt m l wall := by
  funext i
  unfold nxtTo
  split
  · rfl
  · unfold nxt
    rw [if_neg (by omega)]

theorem results_rg {fn : Func} {p : Tmp} (h : fn.results = #[.cell p 121]) (tmps : Array Value) (w : World) (B : Nat) (l : Nat → Int) (hp : tmps.getD p undef = .pointer (some ⟨B, 0, none⟩)) (hT : RgAt w B l) :
    (results fn tmps).run Tryz.prog w = .ok (.agg (rgCells l)) w := by
  have h1 := run_load_rg w B l hT
  have hp2 : tmps[p]?.getD undef = .pointer (some ⟨B, 0, none⟩) := by simpa using hp
  simp only [results, h]
  simp [Sem.run_bind, Result.andThen, hp2, asAddr, h1]

set_option maxRecDepth 100000 in
set_option maxHeartbeats 4000000 in
theorem next_any (m : Mo) (hm : MoOk m) (l : Nat → Int) (hl : Warmy l) (wall : Int) (hw : 0 ≤ wall ∧ wall ≤ 2000) (w : World) :
    Calls Tryz.prog 64 #[.agg m.cells, .agg (rgCells l), .int .i64 wall] w fun e w' => e = .returned (.agg (rgCells (nxt m l wall))) ∧ Below w.heap.size w w' := by
  have HM := Lib.hid (((MoAt.new w m 61).below (below_alloc1 _ (.cells (rgCells l) 121))).below (below_alloc1 _ (.cells (rgCells fun _ => 0) 121)))
  have HL := Lib.hid ((RgAt.new (w.alloc (.cells m.cells 61)) l).below (below_alloc1 _ (.cells (rgCells fun _ => 0) 121)))
  have HZ := Lib.hid (RgAt.new ((w.alloc (.cells m.cells 61)).alloc (.cells (rgCells l) 121)) (fun _ => 0))
  have HB := Lib.hid ((below_alloc2 w (.cells m.cells 61) (.cells (rgCells l) 121)).trans ((below_alloc1 _ (.cells (rgCells fun _ => 0) 121)).mono (by simp; omega)))
  have hs : (((w.alloc (.cells m.cells 61)).alloc (.cells (rgCells l) 121)).alloc (.cells (rgCells fun _ => 0) 121)).heap.size = w.heap.size + 3 := by simp
  have hs2 : ((w.alloc (.cells m.cells 61)).alloc (.cells (rgCells l) 121)).heap.size = w.heap.size + 2 := by simp
  have hs1 : (w.alloc (.cells m.cells 61)).heap.size = w.heap.size + 1 := by simp
  rw [hs2] at HZ
  rw [hs1] at HL
  have HO := Lib.hid hm
  have HLY := Lib.hid hl
  clear hm hl hs1 hs2
  go_enter Tryz.func64, Tryz.ntmps64
  go_upto_region 1 with fail
  obtain ⟨W0, hW0⟩ : ∃ W0, ((w.alloc (.cells m.cells 61)).alloc (.cells (rgCells l) 121)).alloc (.cells (rgCells fun _ => 0) 121) = W0 := ⟨_, rfl⟩
  have hW0' : ((w.alloc (.cells m.cells 61)).alloc (.cells (rgCells l) 121)).alloc (.cells #[.int .i64 0, .int .i64 0, .int .i64 0, .int .i64 0, .int .i64 0, .int .i64 0, .int .i64 0, .int .i64 0] 121) = W0 := hW0
  rw [hW0'] at *
  rw [hW0] at HM HL HZ HB hs
  clear hW0 hW0'
  have HS := Lib.hid hs
  clear hs
  refine wp_region_lit ?_
  refine wpList_load_rg (o := ⟨some 11, _, _, _, _, _⟩) rfl (.tmp 4) rfl (w.heap.size + 1) ?hx l HL.out ?_
  case hx => rfl
  go_upto_region 2 with ((with_reducible refine wpList_fresh_rg (o := ⟨none, .store 121 (.tmp 7) (.tmp 11), _, _, _, _⟩) rfl (.tmp 7) (.tmp 11) rfl W0.heap.size rfl ?hz ?hx l ?hy ?_); (case hz => rfl); (case hx => rfl); (case hy => rfl))
  have HI := Lib.hid (And.intro (belT HB.out (below_alloc1 W0 (.cells (rgCells l) 121))) (And.intro (HM.out.below (below_alloc1 W0 (.cells (rgCells l) 121))) (And.intro (HL.out.below (below_alloc1 W0 (.cells (rgCells l) 121)))
    (And.intro (HZ.out.below (below_alloc1 W0 (.cells (rgCells l) 121))) (RgAt.new W0 l)))))
  have hT := HS.out
  generalize W0.heap.size = T at *
  have HT := Lib.hid hT
  generalize W0.alloc (.cells (rgCells l) 121) = W1 at *
  clear HM HL HZ HB HS hT
  have c0 := HI.out.2.1.c0
  go_wp2_with fail
  go_loopw [15] (fun i wr => ∃ k : Nat, i = .int .i64 k ∧ (k : Int) ≤ m.rings ∧ Hid (Below w.heap.size w wr ∧ MoAt wr w.heap.size m ∧ RgAt wr (w.heap.size + 1) l ∧ RgAt wr (w.heap.size + 2) (fun _ => 0) ∧ RgAt wr T (nxtTo m l wall k))) (fun i _ => m.rings.toNat - (intOf i).toNat)
  case atStart => exact ⟨0, rfl, by have := HO.out.rings; simp; omega, Lib.hid ⟨HI.out.1, HI.out.2.1, HI.out.2.2.1, HI.out.2.2.2.1, HI.out.2.2.2.2.congr fun i _ => by unfold nxtTo; rw [if_neg (by omega)]⟩⟩
  case round =>
    clear HI c0
    obtain ⟨k, rfl, hk, HI⟩ := hrel
    by_cases hlt : (k : Int) < m.rings
    · have hk8 : k < 8 := by have := HO.out.rings; omega
      have k8 : (k : Int) < 8 := by omega
      have c0 := HI.out.2.1.c0
      have c1 := HI.out.2.1.c1
      have cl := HI.out.2.2.1.cell hk8
      have fz := HI.out.2.2.2.2.frozen k
      have ct := HI.out.2.2.2.2.cell hk8
      go_upto_region 5 with fail
      go_quiet (fail)
      obtain ⟨wd, hwd⟩ : ∃ wd, wr.drewN nq = wd := ⟨_, rfl⟩
      have hkd : Below wr.heap.size wr wd := by rw [← hwd]; exact below_drewN (Below.refl _ _) _
      rw [hwd]
      have lT := HI.out.2.2.2.2.lt
      replace fz := keepF hkd lT fz
      replace HI := Lib.hid (And.intro (belT HI.out.1 hkd) (And.intro (HI.out.2.1.below hkd) (And.intro (HI.out.2.2.1.below hkd) (And.intro (HI.out.2.2.2.1.below hkd) (HI.out.2.2.2.2.below hkd)))))
      replace c0 := keep hkd c0
      replace c1 := keep hkd c1
      replace cl := keep hkd cl
      replace ct := keep hkd ct
      clear hwd hkd lT
      go_upto_if 23 with fail
      go_cut [9] (fun x wx => ∃ z : Int, x = .int .i64 z ∧ Hid (z = if 0 < k then l (k - 1) else wall) ∧ wd = wx)
      case first =>
        by_cases hP : 0 < k
        · obtain ⟨j, hj⟩ : ∃ j, k = j + 1 := ⟨k - 1, by omega⟩
          have hkj : (k : Int) - 1 = (j : Int) := by omega
          have j8 : (j : Int) < 8 := by omega
          have cj := HI.out.2.2.1.cell (i := j) (by omega)
          have tP : (0 : Int) < (k : Int) := by omega
          have HP := Lib.hid (And.intro hP hj)
          clear hP hj
          go_wp2_with fail
          go_meet
          exact ⟨_, rfl, Lib.hid (by rw [if_pos HP.out.1]; have := HP.out.2; congr 1; omega), rfl⟩
        · have tP : (k : Int) ≤ 0 := by omega
          have HP := Lib.hid hP
          clear hP
          go_wp2_with fail
          go_meet
          exact ⟨_, rfl, Lib.hid (by rw [if_neg HP.out]), rfl⟩
      case rest =>
        obtain ⟨b, rfl, Hb, rfl⟩ := hcut
        have hwr : IntKind.i64.wrap (m.rings - 1) = m.rings - 1 := IntWalk.i64_in _ (by have := HO.out.rings; omega)
        go_upto_if 33 with fail
        go_cut [10] (fun x wx => ∃ z : Int, x = .int .i64 z ∧ Hid (z = if (k : Int) < m.rings - 1 then l (k + 1) else l k) ∧ wd = wx)
        case first =>
          by_cases hP : (k : Int) < m.rings - 1
          · obtain ⟨j, hj⟩ : ∃ j, j = k + 1 := ⟨k + 1, rfl⟩
            have hkj : (k : Int) + 1 = (j : Int) := by omega
            have j8 : (j : Int) < 8 := by have := HO.out.rings; omega
            have cj := HI.out.2.2.1.cell (i := j) (by omega)
            have HP := Lib.hid (And.intro hP hj)
            clear hj
            go_wp2_with fail
            go_meet
            exact ⟨_, rfl, Lib.hid (by rw [if_pos HP.out.1, HP.out.2]), rfl⟩
          · have tP : m.rings - 1 ≤ (k : Int) := by omega
            have HP := Lib.hid hP
            clear hP
            go_wp2_with fail
            go_meet
            exact ⟨_, rfl, Lib.hid (by rw [if_neg (by have := HP.out; omega)]), rfl⟩
        case rest =>
          obtain ⟨h, rfl, Hh, rfl⟩ := hcut
          have hq : nxt m l wall k = (m.give * (b + h - 2 * l k) + 1000 * l k) / 1000 := by
            unfold nxt
            rw [if_pos hlt, ← Hb.out, ← Hh.out]
          have hb2 : 0 ≤ b ∧ b ≤ 2000 := by
            rw [Hb.out]
            split
            · exact HLY.out _
            · exact hw
          have hh2 : 0 ≤ h ∧ h ≤ 2000 := by
            rw [Hh.out]
            split <;> exact HLY.out _
          have hl2 := HLY.out k
          obtain ⟨⟨n1, n2⟩, n3, n4⟩ := mix_bd HO.out.give hb2 hh2 hl2
          have e1 : IntKind.i64.wrap (b + h) = b + h := IntWalk.i64_in _ (by omega)
          have e2 : IntKind.i64.wrap (2 * l k) = 2 * l k := IntWalk.i64_in _ (by omega)
          have e3 : IntKind.i64.wrap (b + h - 2 * l k) = b + h - 2 * l k := IntWalk.i64_in _ (by omega)
          have e4 : IntKind.i64.wrap (m.give * (b + h - 2 * l k)) = m.give * (b + h - 2 * l k) := IntWalk.i64_in _ (by omega)
          have e5 : IntKind.i64.wrap (1000 * l k) = 1000 * l k := IntWalk.i64_in _ (by omega)
          have e6 : IntKind.i64.wrap (m.give * (b + h - 2 * l k) + 1000 * l k) = m.give * (b + h - 2 * l k) + 1000 * l k := IntWalk.i64_in _ (by omega)
          have e7 : IntKind.i64.wrap ((m.give * (b + h - 2 * l k) + 1000 * l k).tdiv 1000) = nxt m l wall k := by
            rw [Int.tdiv_eq_ediv_of_nonneg n3, hq]
            exact IntWalk.i64_in _ (by omega)
          have hst := (HI.out.2.2.2.2.set (k := k) (nxt m l wall k) hk8)
          rw [nxtTo_succ] at hst
          have hTg : w.heap.size + 2 < T := by have := HT.out; omega
          have hN : Hid (Below w.heap.size w (wd.setCell ⟨T, k, none⟩ (.int .i64 (nxt m l wall k))).drew ∧ MoAt (wd.setCell ⟨T, k, none⟩ (.int .i64 (nxt m l wall k))).drew w.heap.size m ∧ RgAt (wd.setCell ⟨T, k, none⟩ (.int .i64 (nxt m l wall k))).drew (w.heap.size + 1) l
              ∧ RgAt (wd.setCell ⟨T, k, none⟩ (.int .i64 (nxt m l wall k))).drew (w.heap.size + 2) (fun _ => 0) ∧ RgAt (wd.setCell ⟨T, k, none⟩ (.int .i64 (nxt m l wall k))).drew T (nxtTo m l wall (k + 1))) :=
            Lib.hid ⟨(HI.out.1.setCell (p := ⟨T, k, none⟩) (by show w.heap.size ≤ T; omega) (.int .i64 (nxt m l wall k))).drew, (HI.out.2.1.other (by omega)).below (Below.drew (Below.refl _ _)), HI.out.2.2.1.other (by omega), HI.out.2.2.2.1.other (by omega), hst⟩
          clear hst hq hb2 hh2 hl2 n1 n2 n3 n4 Hb Hh HI hTg
          go_upto_region 10 with fail
          go_still_tail 20, (by kernel_rfl)
          change wpList _ _ _ _ _ wd.drew
          go_wp2_with fail
          go_roundw
          case rel => exact ⟨k + 1, by go_num, by omega, hN⟩
          case measure => simp [intOf]; omega
    · have hkm : (k : Int) = m.rings := by omega
      have hge : m.rings ≤ (k : Int) := by omega
      have HK := Lib.hid hkm
      have hf := HI.out.2.2.2.2
      rw [nxtTo_all hkm] at hf
      have HF := Lib.hid hf
      clear hkm hf hlt
      go_upto_region 12 with fail
      refine wp_region_lit ?_
      refine wpList_load_rg (o := ⟨some 59, _, _, _, _, _⟩) rfl (.tmp 7) rfl T ?hx (nxt m l wall) HF.out ?_
      case hx => rfl
      refine wpList_store_rg (o := ⟨none, _, _, _, _, _⟩) rfl (.tmp 6) (.tmp 59) rfl (w.heap.size + 2) ?hx (fun _ => 0) (nxt m l wall) ?hy HI.out.2.2.2.1 ?_
      case hx => rfl
      case hy => rfl
      go_wp2_with fail
      exact bodyPost_ret (v := .agg (rgCells (nxt m l wall))) (results_rg rfl _ _ (w.heap.size + 2) (nxt m l wall) rfl (HI.out.2.2.2.1.over _)) rfl ⟨rfl, setRow_below HI.out.1 (by omega) _⟩

end Go.Proofs.YtcncmlpppabbcaaGreat
