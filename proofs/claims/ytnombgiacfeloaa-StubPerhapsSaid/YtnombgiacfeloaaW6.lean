/- Proved here: contracts of functions of the program, each for every input that its statement names. The walk of the program's 'Best'. -/
import Derived.Test.YtnombgiacfeloaaW5
import Derived.Laws.EntriesVeiled
namespace Go.Proofs.Ytnombgiacfeloaa
set_option linter.unusedVariables false
set_option linter.unusedSimpArgs false
open Go.RowKit

theorem info57 : (Try.prog.info? 57).map (fun i => (i.zero, i.size, i.bytes)) = some (some (.agg #[.int .i64 0, .int .i64 0, .int .i64 0]), 3, 24) := by kernel_rfl
theorem info3 : (Try.prog.info? 3).map (fun i => (i.zero, i.size, i.bytes)) = some (some (.int .i64 0), 1, 8) := by kernel_rfl

/-- The best choice of those before the k-th one. -/
def firstTo (a f : Int) (bs : List Bag) : Nat → Choice
  | 0 => ⟨0, 0, 0⟩
  | k + 1 => stepC (sureB a f (chosenTo bs k bs.length)) (firstTo a f bs k) (candOf bs k)

theorem Rd.drew {w : World} {k : Nat} {v : Value} {rows : List (List Value)} (h : Rd w k v rows) : Rd w.drew k v rows := h

def ordAt (x y : Choice) : Nat → Int
  | 0 => 0
  | 1 => ord1 x y
  | 2 => ord2 x y
  | _ => ord3 x y

/-- The indices below k that are in a choice. -/
def idxTo (n bits : Nat) : Nat → List Int
  | 0 => []
  | k + 1 => if hasBit n bits k then idxTo n bits k ++ [(k : Int)] else idxTo n bits k

theorem idxTo_len (n bits k : Nat) : (idxTo n bits k).length ≤ k := by
  induction k with
  | zero => simp [idxTo]
  | succ k ih =>
    unfold idxTo
    split
    · simp; omega
    · omega

def bestIdx (a f : Int) (bs : List Bag) : List Int := idxTo bs.length (firstTo a f bs (2 ^ bs.length)).bits.toNat bs.length

/-- A slice of just these numbers, in new memory, and an error. -/
def RetInts (zs : List Int) (err : Int) (w : World) (e : Ending) (w' : World) : Prop := ∃ l, e = .returned (.tuple #[l, .int .i64 err]) ∧ Rd w' 1 l (ints zs) ∧ Below w.heap.size w w'

theorem chosenTo_zero (bs : List Bag) (k : Nat) : chosenTo bs 0 k = [] := by
  induction k with
  | zero => rfl
  | succ k ih =>
    unfold chosenTo
    rw [ih]
    split
    · simp [hasBit]
    · rfl

theorem firstTo_bd (a f : Int) (bs : List Bag) (hg : Good bs) (hlen : bs.length ≤ 10) (k : Nat) :
    0 ≤ (firstTo a f bs k).grams ∧ (firstTo a f bs k).grams ≤ 10000000 ∧ 0 ≤ (firstTo a f bs k).bits ∧ ((firstTo a f bs k).bits < k ∨ k = 0 ∧ (firstTo a f bs k).bits = 0) := by
  induction k with
  | zero => simp [firstTo]
  | succ k ih =>
    have hcl := chosenTo_len bs k bs.length
    have lb := leastG_bd (chosenTo bs k bs.length) (fun b hb => hg.lo b (chosenTo_mem bs k bs.length b hb))
    unfold firstTo stepC
    split
    · omega
    · split
      · unfold candOf
        dsimp only
        omega
      · omega

set_option maxRecDepth 100000 in
set_option maxHeartbeats 1000000 in
theorem best_ok (a f : Int) (v : Value) (bs : List Bag) (w : World) (h : Rd w 3 v (bagRows bs)) (he : beginErr a f bs = 0) :
    Calls Try.prog 32 #[.agg #[.int .i64 a, .int .i64 f], v] w (RetInts (bestIdx a f bs) 0 w) := by
  obtain ⟨-, ⟨hf0, hf⟩, hlen, hg, hs⟩ := beginErr_ok he
  have hB := Below.refl w.heap.size w
  have HR := Lib.hid h
  have HG := Lib.hid hg
  have HE := Lib.hid he
  have HS := Lib.hid hs
  obtain ⟨ad, c, rfl, -, hm, hr⟩ := h.bags
  have H := Lib.hid hr
  clear h hg he hs hr
  obtain ⟨i0, hi, hz0, hz1, hz2⟩ := info_parts info57
  go_enter Try.func32, Try.ntmps32
  go_wp2_with fail
  refine (begin_any a f _ bs _ (HR.out.below (below_alloc1 _ _))).mono ?_
  rw [HE.out, HS.out]
  rintro e w1 ⟨rfl, hb⟩
  have l0 : w.heap.size < w1.heap.size := by have := hb.size; simp at this; omega
  have hk : Below w.heap.size w w1 := by (repeat (first | assumption | exact Below.refl _ _ | refine Below.alloc ?_ (by (try simp) <;> omega) _ | refine below_drewN ?_ _ | refine Below.drew ?_ | refine Below.setCell ?_ (by (try simp) <;> omega) _ | refine Below.trans ?_ (Below.mono (by assumption) (by (try simp) <;> omega))))
  replace hB := hB.trans (hk.mono hB.size)
  have hzw1 := hB.size
  clear hk hb
  go_wp2_with fail
  have hp0 : 1 ≤ (2 : Int) ^ bs.length := by have := @Nat.one_le_two_pow bs.length; have e : ((2 ^ bs.length : Nat) : Int) = (2 : Int) ^ bs.length := by simp
                                             omega
  have hp1 : (2 : Int) ^ bs.length ≤ 1024 := by have : 2 ^ bs.length ≤ 2 ^ 10 := Nat.pow_le_pow_right (by omega) hlen
                                                have e : ((2 ^ bs.length : Nat) : Int) = (2 : Int) ^ bs.length := by simp
                                                omega
  have hN : ((2 ^ bs.length : Nat) : Int) = (2 : Int) ^ bs.length := by simp
  generalize hNN : 2 ^ bs.length = N at hN
  rw [← hN] at hp0 hp1
  have hw : wrap64 ((2 : Int) ^ bs.length) = (N : Int) := by rw [← hN]; exact IntWalk.wrap64_in _ (by omega)
  rw [hw]
  have HN := Lib.hid hN
  have HNN := Lib.hid hNN
  clear hN hNN hw
  generalize hS : w1.heap.size = S at *
  go_loopw [4, 35] (fun r i wr => ∃ k : Nat, k ≤ N ∧ i = .int .i64 k ∧ r = .slice none 0 0 ∧ Below w.heap.size w wr ∧ S + 3 ≤ wr.heap.size ∧
      wr.cell? ⟨S, 0, none⟩ = some (.int .i64 a) ∧ wr.cell? ⟨S, 1, none⟩ = some (.int .i64 f) ∧
      wr.cell? ⟨S + 1, 0, none⟩ = some (.func (.func 79) #[] #[]) ∧ wr.cell? ⟨S + 1, 1, none⟩ = some (.func (.func 80) #[] #[]) ∧ wr.cell? ⟨S + 1, 2, none⟩ = some (.func (.func 81) #[] #[]) ∧
      wr.cell? ⟨S + 2, 0, none⟩ = some (.int .i64 (firstTo a f bs k).grams) ∧ wr.cell? ⟨S + 2, 1, none⟩ = some (.int .i64 (firstTo a f bs k).many) ∧ wr.cell? ⟨S + 2, 2, none⟩ = some (.int .i64 (firstTo a f bs k).bits) ∧
      wr.frozen? ⟨S + 2, 0, none⟩ = false ∧ wr.frozen? ⟨S + 2, 1, none⟩ = false ∧ wr.frozen? ⟨S + 2, 2, none⟩ = false) (fun _ i _ => N - (intOf i).toNat)
  case atStart => exact ⟨0, Nat.zero_le _, rfl, rfl, by (repeat (first | assumption | exact Below.refl _ _ | refine Below.alloc ?_ (by (try simp) <;> omega) _ | refine below_drewN ?_ _ | refine Below.drew ?_ | refine Below.setCell ?_ (by (try simp) <;> omega) _ | refine Below.trans ?_ (Below.mono (by assumption) (by (try simp) <;> omega)))), by simp; omega, by simp [go_sem, ← hS], by simp [go_sem, ← hS], by simp [go_sem, ← hS], by simp [go_sem, ← hS], by simp [go_sem, ← hS], by simp [go_sem, ← hS, firstTo], by simp [go_sem, ← hS, firstTo], by simp [go_sem, ← hS, firstTo], by simp [go_sem, ← hS], by simp [go_sem, ← hS], by simp [go_sem, ← hS]⟩
  case round =>
    obtain ⟨k, hk, rfl, rfl, hB, hS3, c0, c1, m0, m1, m2, q0, q1, q2, z0, z1, z2⟩ := hrel
    by_cases hlt : k < N
    · go_wp2_with fail
      obtain ⟨wo, rfl⟩ : ∃ wo : World, wo = wr := ⟨_, rfl⟩
      have hX : (wo.alloc (Obj.cells #[Value.int IntKind.i64 0, Value.int IntKind.i64 0, Value.int IntKind.i64 ↑k] 137)).heap.size = wo.heap.size + 1 := by simp
      go_loopw [10, 42] (fun l i ws => ∃ j : Nat, j ≤ bs.length ∧ i = .int .i64 j ∧ Below wo.heap.size wo ws ∧ wo.heap.size + 1 ≤ ws.heap.size ∧
          ws.ownsRow (wo.heap.size + 1) 57 3 l (bagRows (chosenTo bs k j)).length (bagRows (chosenTo bs k j)).flatten ∧
          ws.cell? ⟨wo.heap.size, 0, none⟩ = some (.int .i64 (leastG (chosenTo bs k j))) ∧ ws.cell? ⟨wo.heap.size, 1, none⟩ = some (.int .i64 (chosenTo bs k j).length) ∧ ws.cell? ⟨wo.heap.size, 2, none⟩ = some (.int .i64 k) ∧
          ws.frozen? ⟨wo.heap.size, 0, none⟩ = false ∧ ws.frozen? ⟨wo.heap.size, 1, none⟩ = false) (fun _ i _ => bs.length - (intOf i).toNat)
      case atStart => exact ⟨0, Nat.zero_le _, rfl, below_alloc1 _ _, by simp, World.ownsRow_nil _ _ _ _, by simp [go_sem, chosenTo, leastG], by simp [go_sem, chosenTo], by simp [go_sem], by simp [go_sem], by simp [go_sem]⟩
      case round =>
        obtain ⟨j, hj, rfl, hBi, hsz, hown, x0, x1, x2, fx0, fx1⟩ := hrel
        have hXl := lt_of_cell x0
        have hne : ∀ b, b < wo.heap.size + 1 → some b ≠ u10.ownBlock := fun b hb e => by have := (hown.lt _ e.symm).1; omega
        have hnw : some wr.heap.size ≠ u10.ownBlock := fun e => by have := (hown.lt _ e.symm).2; omega
        by_cases hjl : j < bs.length
        · obtain ⟨b, off, rfl, hbl, hc⟩ := H.out (by omega)
          obtain ⟨g1, g2, g3⟩ := hc j hjl
          clear hc
          have hBa := hB.trans (hBi.mono hB.size)
          rw [← hBa.cell (p := ⟨b, _, none⟩) hbl] at g1 g2 g3
          clear hBa
          have gb := HG.out bs[j] (List.getElem_mem _)
          generalize hx : bs[j] = x at g1 g2 g3 gb
          have HX := Lib.hid hx
          clear hx
          have hcl := chosenTo_len bs k j
          have hcl' := bagRows_length (chosenTo bs k j)
          have HCL' := Lib.hid hcl'
          have hr10 : (bagRows (chosenTo bs k j)).length ≤ 10 := by omega
          clear hcl'
          have HNE := Lib.hid hne
          have HNW := Lib.hid hnw
          clear hne hnw
          have hbt := bit_test bs.length k j (by omega)
          have hcs : chosenTo bs k (j + 1) = if hasBit bs.length k j then chosenTo bs k j ++ [bs[j]] else chosenTo bs k j := by
            conv => lhs; unfold chosenTo
            rw [List.getElem?_eq_getElem hjl]
          rw [HX.out] at hcs
          cases hq : hasBit bs.length k j
          · rw [hq] at hbt hcs
            simp only [Bool.false_eq_true, if_false] at hcs
            have HC := Lib.hid hcs
            clear hcs hq
            go_wp2_with fail
            refine ⟨⟨j + 1, by omega, by go_num, ?_, ?_, ?_, ?_⟩, ?_⟩
            · (repeat (first | assumption | exact Below.refl _ _ | refine Below.alloc ?_ (by (try simp) <;> omega) _ | refine below_drewN ?_ _ | refine Below.drew ?_ | refine Below.setCell ?_ (by (try simp) <;> omega) _ | refine Below.trans ?_ (Below.mono (by assumption) (by (try simp) <;> omega))))
            · simp; omega
            · rw [HC.out]; exact hown.alloc _
            · rw [HC.out]; simp [go_sem, *]
            · simp [intOf]; omega
          · rw [hq] at hbt hcs
            simp only [if_true] at hcs
            have HC := Lib.hid hcs
            clear hcs hq
            go_wp2_with (at_builtin; refine wpList_append_own _ rfl _ _ 47 rfl (wo.heap.size + 1) 57 i0 (.agg #[.int .i64 0, .int .i64 0, .int .i64 0]) 3 24 Try.underlying47 hi hz0 hz1 hz2 rfl (by decide) _ _ _ rfl ((hown.alloc _).alloc _) ⟨wr.heap.size + 1, 0, none⟩ 1 1 [.int .i64 x.lo, .int .i64 x.hi, .int .i64 x.kinds] rfl rfl ?c1 ?c2 ?c3 ?c4 ?c5 ?_)
            case c1 => exact cells_new _ _ _ _ (by simp)
            case c2 => simp [Value.oneCell']
            case c3 => unfold maxLen; omega
            case c4 => omega
            case c5 => simp; omega
            intro l' w3 hown3 hg3 _
            have hBg := grown_below (B := wo.heap.size) hg3 (by simp; omega) (fun b e => by have := (hown.lt _ e).1; omega)
            replace x0 := grown_keep hg3 ((World.cell?_alloc_lt _ _ _ (by simp; omega)).trans ((World.cell?_alloc_lt _ _ _ (by simpa using hXl)).trans x0)) (HNE.out _ (by omega))
            replace x1 := grown_keep hg3 ((World.cell?_alloc_lt _ _ _ (by simp; omega)).trans ((World.cell?_alloc_lt _ _ _ (by simpa using hXl)).trans x1)) (HNE.out _ (by omega))
            replace x2 := grown_keep hg3 ((World.cell?_alloc_lt _ _ _ (by simp; omega)).trans ((World.cell?_alloc_lt _ _ _ (by simpa using hXl)).trans x2)) (HNE.out _ (by omega))
            have y0 : w3.cell? ⟨wr.heap.size, 0, none⟩ = some (.int .i64 x.lo) := grown_keep hg3 (by simp [go_sem]) HNW.out
            replace fx0 := grown_keepF hg3 (by simp; omega) ((World.frozen?_of_block (Below.heap_alloc _ _ _ (by simp; omega))).trans ((World.frozen?_of_block (Below.heap_alloc _ _ _ (by simpa using hXl))).trans fx0)) (HNE.out _ (by omega))
            replace fx1 := grown_keepF hg3 (by simp; omega) ((World.frozen?_of_block (Below.heap_alloc _ _ _ (by simp; omega))).trans ((World.frozen?_of_block (Below.heap_alloc _ _ _ (by simpa using hXl))).trans fx1)) (HNE.out _ (by omega))
            have hz3 := hg3.size
            simp at hz3
            have lb := leastG_bd (chosenTo bs k j) (fun b hb => HG.out.lo b (chosenTo_mem bs k j b hb))
            have hx3 := lt_of_cell x0
            go_wp2_with fail
            refine ⟨⟨j + 1, by omega, by go_num, ?_, by simp; omega, ?_, ?_, ?_, ?_, ?_, ?_⟩, by simp [intOf]; omega⟩
            · refine Below.setCell (Below.setCell ?_ (by simp) _) (by simp) _
              exact (by (repeat (first | assumption | exact Below.refl _ _ | refine Below.alloc ?_ (by (try simp) <;> omega) _ | refine below_drewN ?_ _ | refine Below.drew ?_ | refine Below.setCell ?_ (by (try simp) <;> omega) _ | refine Below.trans ?_ (Below.mono (by assumption) (by (try simp) <;> omega)))) : Below wo.heap.size wo _).trans hBg
            · rw [HC.out]
              refine ownsRow_setCell_below (ownsRow_setCell_below ?_ (by simp) _) (by simp) _
              have e1 : (bagRows (chosenTo bs k j ++ [x])).length = (bagRows (chosenTo bs k j)).length + 1 := by simp [bagRows]
              have e2 : (bagRows (chosenTo bs k j ++ [x])).flatten = (bagRows (chosenTo bs k j)).flatten ++ [.int .i64 x.lo, .int .i64 x.hi, .int .i64 x.kinds] := by simp [bagRows, Bag.row]
              rw [e1, e2]; exact hown3
            · rw [HC.out, leastG_snoc]; simp [go_sem, *]
            · rw [HC.out]; simp [go_sem, *]
            · simp [go_sem, *]
            · simp [go_sem, *]
            · simp [go_sem, *]
        · have hj' : j = bs.length := by omega
          subst hj'
          have d0 := keep hBi c0
          have d1 := keep hBi c1
          have p0 := keep hBi m0
          have p1 := keep hBi m1
          have p2 := keep hBi m2
          have f0 := keep hBi q0
          have f1 := keep hBi q1
          have f2 := keep hBi q2
          have k0 := keepF hBi (lt_of_cell q0) z0
          have k1 := keepF hBi (lt_of_cell q0) z1
          have k2 := keepF hBi (lt_of_cell q0) z2
          replace hB := hB.trans (hBi.mono hB.size)
          have hRd := Rd.of_owns hown (bagRows_len _)
          clear c0 c1 m0 m1 m2 q0 q1 q2 z0 z1 z2
          have hcl := chosenTo_len bs k bs.length
          have lb := leastG_bd (chosenTo bs k bs.length) (fun b hb => HG.out.lo b (chosenTo_mem bs k bs.length b hb))
          have fb := firstTo_bd a f bs HG.out hlen k
          have fs : firstTo a f bs (k + 1) = stepC (sureB a f (chosenTo bs k bs.length)) (firstTo a f bs k) (candOf bs k) := rfl
          unfold candOf at fs
          have hgc : Good (chosenTo bs k bs.length) := fun b hb => HG.out b (chosenTo_mem bs k bs.length b hb)
          by_cases hk0 : k = 0
          · subst hk0
            have e0 : chosenTo bs 0 bs.length = [] := chosenTo_zero bs _
            have HFST := Lib.hid fs
            clear fs
            rw [e0] at x0 x1
            have e1 : firstTo a f bs (0 + 1) = ⟨0, 0, 0⟩ := by rw [HFST.out, e0]; rfl
            have E1 := Lib.hid e1
            clear e1
            change wr.cell? ⟨wo.heap.size, 0, none⟩ = some (.int .i64 0) at x0
            change wr.cell? ⟨wo.heap.size, 1, none⟩ = some (.int .i64 0) at x1
            change wr.cell? ⟨wo.heap.size, 2, none⟩ = some (.int .i64 0) at x2
            change wr.cell? ⟨S + 2, 0, none⟩ = some (.int .i64 0) at f0
            change wr.cell? ⟨S + 2, 1, none⟩ = some (.int .i64 0) at f1
            change wr.cell? ⟨S + 2, 2, none⟩ = some (.int .i64 0) at f2
            go_wp2_with fail
            refine ⟨⟨0 + 1, by omega, by go_num, rfl, hB, by omega, d0, d1, p0, p1, p2, ?_, ?_, ?_, k0, k1, k2⟩, by simp [intOf]; omega⟩ <;> (rw [E1.out]; assumption)
          · generalize firstTo a f bs k = F at f0 f1 f2 fb fs
            obtain ⟨fg, fm, fb'⟩ := F
            dsimp only at f0 f1 f2 fb
            have hne : ¬ ((k : Nat) : Int) = fb' := by omega
            have HFST := Lib.hid fs
            have HGC := Lib.hid hgc
            clear fs hgc
            generalize hgx : leastG (chosenTo bs k bs.length) = gx at x0 lb
            generalize hmx : (chosenTo bs k bs.length).length = mx at x1 lb hcl hown
            have HGX := Lib.hid hgx
            have HMX := Lib.hid hmx
            clear hgx hmx
            have lx0 := lt_of_cell x0
            go_wp2_with fail
            refine (sure_any a f _ (chosenTo bs k bs.length) _ hRd (by rw [HMX.out]; omega) hf0 hf HGC.out).mono ?_
            rintro e w2 ⟨rfl, hb⟩
            replace k0 := keepF hb (lt_of_cell f0) k0
            replace k1 := keepF hb (lt_of_cell f0) k1
            replace k2 := keepF hb (lt_of_cell f0) k2
            have hsw := hb.size
            have hk : Below wr.heap.size wr w2 := by (repeat (first | assumption | exact Below.refl _ _ | refine Below.alloc ?_ (by (try simp) <;> omega) _ | refine below_drewN ?_ _ | refine Below.drew ?_ | refine Below.setCell ?_ (by (try simp) <;> omega) _ | refine Below.trans ?_ (Below.mono (by assumption) (by (try simp) <;> omega))))
            replace hB := hB.trans (hk.mono hB.size)
            have hzw2 := hB.size
            replace d0 := keep hk d0
            replace d1 := keep hk d1
            replace p0 := keep hk p0
            replace p1 := keep hk p1
            replace p2 := keep hk p2
            replace f0 := keep hk f0
            replace f1 := keep hk f1
            replace f2 := keep hk f2
            replace x0 := keep hk x0
            replace x1 := keep hk x1
            replace x2 := keep hk x2
            have ld0 := lt_of_cell d0
            have lp0 := lt_of_cell p0
            have lf0 := lt_of_cell f0
            have lx0 := lt_of_cell x0
            clear hk hb
            cases hq : sureB a f (chosenTo bs k bs.length)
            · have e1 : firstTo a f bs (k + 1) = ⟨fg, fm, fb'⟩ := by rw [HFST.out, hq]; simp [stepC]
              have E1 := Lib.hid e1
              clear e1
              go_wp2_with fail
              refine ⟨⟨k + 1, by omega, by go_num, rfl, hB, by omega, d0, d1, p0, p1, p2, ?_, ?_, ?_, k0, k1, k2⟩, by simp [intOf]; omega⟩ <;> (rw [E1.out]; assumption)
            · have e1 : firstTo a f bs (k + 1) = if ord3 ⟨gx, mx, k⟩ ⟨fg, fm, fb'⟩ < 0 then ⟨gx, mx, k⟩ else ⟨fg, fm, fb'⟩ := by
                rw [HFST.out, hq, HGX.out, HMX.out]
                have hs : sameC ⟨gx, mx, k⟩ ⟨fg, fm, fb'⟩ = false := by simp [sameC, hne]
                unfold stepC
                rw [hs]
                rfl
              have E1 := Lib.hid e1
              clear e1
              go_wp2_with fail
              go_loopw [14, 83] (fun o i ws => ∃ j : Nat, j ≤ 3 ∧ i = .int .i64 j ∧ o = .int .i64 (ordAt ⟨gx, mx, k⟩ ⟨fg, fm, fb'⟩ j) ∧ Below w2.heap.size w2 ws) (fun _ i _ => 3 - (intOf i).toNat)
              case atStart => exact ⟨0, by omega, rfl, rfl, Below.refl _ _⟩
              case round =>
                obtain ⟨j, hj3, rfl, rfl, hBj⟩ := hrel
                have r0 := keep hBj p0
                have r1 := keep hBj p1
                have r2 := keep hBj p2
                have s0 := keep hBj f0
                have s1 := keep hBj f1
                have s2 := keep hBj f2
                have t0 := keep hBj x0
                have t1 := keep hBj x1
                have t2 := keep hBj x2
                clear p0 p1 p2
                have hzj := hBj.size
                have HE1 := Lib.hid hBj
                have n0 := lt_of_cell r0
                have n1 := lt_of_cell s0
                have n2 := lt_of_cell t0
                have hj012 : j = 3 ∨ j = 0 ∨ j = 1 ∨ j = 2 := by omega
                rcases hj012 with rfl | rfl | rfl | rfl
                · have v0 := keepF hBj lf0 k0
                  have v1 := keepF hBj lf0 k1
                  have v2 := keepF hBj lf0 k2
                  have u0 := keep hBj d0
                  have u1 := keep hBj d1
                  have hBw := hB.trans (hBj.mono hB.size)
                  clear k0 k1 k2 d0 d1 f0 f1 f2 x0 x1 x2
                  have ho : ordAt ⟨gx, mx, k⟩ ⟨fg, fm, fb'⟩ 3 = ord3 ⟨gx, mx, k⟩ ⟨fg, fm, fb'⟩ := rfl
                  rw [← ho] at E1
                  clear ho
                  by_cases hlt3 : ordAt ⟨gx, mx, k⟩ ⟨fg, fm, fb'⟩ 3 < 0
                  · have e2 : firstTo a f bs (k + 1) = ⟨gx, mx, k⟩ := by rw [E1.out, if_pos hlt3]
                    have E2 := Lib.hid e2
                    clear e2
                    go_wp2_with fail
                    refine ⟨⟨k + 1, by omega, by go_num, rfl, ?_, by simp; omega, ?_, ?_, ?_, ?_, ?_, ?_, ?_, ?_, ?_, ?_, ?_⟩, by simp [intOf]; omega⟩
                    · refine Below.setCell (Below.setCell (Below.setCell hBw (by simp; omega) _) (by simp; omega) _) (by simp; omega) _
                    all_goals (try rw [E2.out]) <;> simp [go_sem, *]
                  · have e2 : firstTo a f bs (k + 1) = ⟨fg, fm, fb'⟩ := by rw [E1.out, if_neg hlt3]
                    have E2 := Lib.hid e2
                    clear e2
                    go_wp2_with fail
                    refine ⟨⟨k + 1, by omega, by go_num, rfl, hBw, by omega, u0, u1, r0, r1, r2, ?_, ?_, ?_, v0, v1, v2⟩, by simp [intOf]; omega⟩ <;> (rw [E2.out]; assumption)
                · go_wp2_with fail
                  go_region_held3 (fun w' => w'.cell? ⟨wo.heap.size, 0, none⟩ = some (.int .i64 gx) ∧ w'.cell? ⟨wo.heap.size, 1, none⟩ = some (.int .i64 mx) ∧ w'.cell? ⟨wo.heap.size, 2, none⟩ = some (.int .i64 k) ∧ w'.cell? ⟨S + 1 + 1, 0, none⟩ = some (.int .i64 fg) ∧ w'.cell? ⟨S + 1 + 1, 1, none⟩ = some (.int .i64 fm) ∧ w'.cell? ⟨S + 1 + 1, 2, none⟩ = some (.int .i64 fb') ∧ w'.cell? ⟨wr.heap.size, 0, none⟩ = some (.func (.func 79) #[] #[]))
                    (first | (go_split_ands; refine ⟨?_, ?_, ?_, ?_, ?_, ?_, ?_⟩ <;> (refine keep hb ?_; assumption)) | go_keep)
                    (first
                     | (go_at_call 79; refine (best1_any _ _ _ _ (by omega) (by omega)).mono ?_; rintro e w3 ⟨rfl, hb⟩; have hs3 := below_size hb; (try simp at hs3))
                     | (go_at_call 83; refine (compare_any _ _ _).mono ?_; rintro e w' ⟨rfl, rfl⟩)
                     | (go_at_call 82; refine (or_any _ [ordAt ⟨gx, mx, k⟩ ⟨fg, fm, fb'⟩ 0, cmpI (-gx) (-fg)] _ ?_).mono ?_; (first | exact Rd.made2 _ _ _ _ _ (by simp) | exact Rd.drew (Rd.made2 _ _ _ _ _ (by simp))); rintro e w' ⟨rfl, rfl⟩))
                  go_wp2_with fail
                  refine ⟨⟨0 + 1, by omega, by go_num, rfl, ?_⟩, by simp [intOf]⟩
                  (repeat (first | assumption | exact Below.refl _ _ | refine Below.alloc ?_ (by (try simp) <;> omega) _ | refine below_drewN ?_ _ | refine Below.drew ?_ | refine Below.setCell ?_ (by (try simp) <;> omega) _ | refine Below.trans ?_ (Below.mono (by assumption) (by (try simp) <;> omega))))
                · go_wp2_with fail
                  go_region_held3 (fun w' => w'.cell? ⟨wo.heap.size, 0, none⟩ = some (.int .i64 gx) ∧ w'.cell? ⟨wo.heap.size, 1, none⟩ = some (.int .i64 mx) ∧ w'.cell? ⟨wo.heap.size, 2, none⟩ = some (.int .i64 k) ∧ w'.cell? ⟨S + 1 + 1, 0, none⟩ = some (.int .i64 fg) ∧ w'.cell? ⟨S + 1 + 1, 1, none⟩ = some (.int .i64 fm) ∧ w'.cell? ⟨S + 1 + 1, 2, none⟩ = some (.int .i64 fb') ∧ w'.cell? ⟨wr.heap.size, 0, none⟩ = some (.func (.func 80) #[] #[]))
                    (first | (go_split_ands; refine ⟨?_, ?_, ?_, ?_, ?_, ?_, ?_⟩ <;> (refine keep hb ?_; assumption)) | go_keep)
                    (first
                     | (go_at_call 80; refine (best2_any _ _ _ _).mono ?_; rintro e w3 ⟨rfl, hb⟩; have hs3 := below_size hb; (try simp at hs3))
                     | (go_at_call 83; refine (compare_any _ _ _).mono ?_; rintro e w' ⟨rfl, rfl⟩)
                     | (go_at_call 82; refine (or_any _ [ordAt ⟨gx, mx, k⟩ ⟨fg, fm, fb'⟩ 1, cmpI mx fm] _ ?_).mono ?_; (first | exact Rd.made2 _ _ _ _ _ (by simp) | exact Rd.drew (Rd.made2 _ _ _ _ _ (by simp))); rintro e w' ⟨rfl, rfl⟩))
                  go_wp2_with fail
                  refine ⟨⟨1 + 1, by omega, by go_num, rfl, ?_⟩, by simp [intOf]⟩
                  (repeat (first | assumption | exact Below.refl _ _ | refine Below.alloc ?_ (by (try simp) <;> omega) _ | refine below_drewN ?_ _ | refine Below.drew ?_ | refine Below.setCell ?_ (by (try simp) <;> omega) _ | refine Below.trans ?_ (Below.mono (by assumption) (by (try simp) <;> omega))))
                · go_wp2_with fail
                  go_region_held3 (fun w' => w'.cell? ⟨wo.heap.size, 0, none⟩ = some (.int .i64 gx) ∧ w'.cell? ⟨wo.heap.size, 1, none⟩ = some (.int .i64 mx) ∧ w'.cell? ⟨wo.heap.size, 2, none⟩ = some (.int .i64 k) ∧ w'.cell? ⟨S + 1 + 1, 0, none⟩ = some (.int .i64 fg) ∧ w'.cell? ⟨S + 1 + 1, 1, none⟩ = some (.int .i64 fm) ∧ w'.cell? ⟨S + 1 + 1, 2, none⟩ = some (.int .i64 fb') ∧ w'.cell? ⟨wr.heap.size, 0, none⟩ = some (.func (.func 81) #[] #[]))
                    (first | (go_split_ands; refine ⟨?_, ?_, ?_, ?_, ?_, ?_, ?_⟩ <;> (refine keep hb ?_; assumption)) | go_keep)
                    (first
                     | (go_at_call 81; refine (best3_any _ _ _ _ (by omega) (by omega)).mono ?_; rintro e w3 ⟨rfl, hb⟩; have hs3 := below_size hb; (try simp at hs3))
                     | (go_at_call 83; refine (compare_any _ _ _).mono ?_; rintro e w' ⟨rfl, rfl⟩)
                     | (go_at_call 82; refine (or_any _ [ordAt ⟨gx, mx, k⟩ ⟨fg, fm, fb'⟩ 2, cmpI (-k) (-fb')] _ ?_).mono ?_; (first | exact Rd.made2 _ _ _ _ _ (by simp) | exact Rd.drew (Rd.made2 _ _ _ _ _ (by simp))); rintro e w' ⟨rfl, rfl⟩))
                  go_wp2_with fail
                  refine ⟨⟨2 + 1, by omega, by go_num, rfl, ?_⟩, by simp [intOf]⟩
                  (repeat (first | assumption | exact Below.refl _ _ | refine Below.alloc ?_ (by (try simp) <;> omega) _ | refine below_drewN ?_ _ | refine Below.drew ?_ | refine Below.setCell ?_ (by (try simp) <;> omega) _ | refine Below.trans ?_ (Below.mono (by assumption) (by (try simp) <;> omega))))
    · have hk' : k = N := by omega
      subst hk'
      obtain ⟨wo, rfl⟩ : ∃ wo : World, wo = wr := ⟨_, rfl⟩
      have fb := firstTo_bd a f bs HG.out hlen k
      have hbi : bestIdx a f bs = idxTo bs.length (firstTo a f bs k).bits.toNat bs.length := by unfold bestIdx; rw [HNN.out]
      have HBI := Lib.hid hbi
      clear hbi
      generalize firstTo a f bs k = F at q0 q1 q2 fb HBI
      obtain ⟨fg, fm, fz⟩ := F
      dsimp only at q0 q1 q2 fb HBI
      obtain ⟨Z, rfl⟩ := Int.eq_ofNat_of_zero_le fb.2.2.1
      rw [Int.toNat_natCast] at HBI
      have hZ : Z < 9223372036854775808 := by omega
      have lq := lt_of_cell q2
      clear c0 c1 m0 m1 m2 q0 q1 z0 z1 z2 fb
      obtain ⟨i0', hi', hz0', hz1', hz2'⟩ := info_parts info3
      go_wp2_with fail
      go_loopw [4, 106] (fun l i ws => ∃ j : Nat, j ≤ bs.length ∧ i = .int .i64 j ∧ Below wo.heap.size wo ws ∧ ws.ownsRow wo.heap.size 3 1 l (ints (idxTo bs.length Z j)).length (ints (idxTo bs.length Z j)).flatten) (fun _ i _ => bs.length - (intOf i).toNat)
      case atStart => exact ⟨0, Nat.zero_le _, rfl, Below.refl _ _, World.ownsRow_nil _ _ _ _⟩
      case round =>
        obtain ⟨j, hj, rfl, hBi, hown⟩ := hrel
        by_cases hjl : j < bs.length
        · have q2' := keep hBi q2
          have hbt := bit_test bs.length Z j hZ
          have hcs : idxTo bs.length Z (j + 1) = if hasBit bs.length Z j then idxTo bs.length Z j ++ [(j : Int)] else idxTo bs.length Z j := rfl
          have hcl := idxTo_len bs.length Z j
          have hcl' := ints_length (idxTo bs.length Z j)
          have hr10 : (ints (idxTo bs.length Z j)).length ≤ 10 := by omega
          clear hcl'
          have hzi := hBi.size
          cases hq : hasBit bs.length Z j
          · rw [hq] at hbt hcs
            simp only [Bool.false_eq_true, if_false] at hcs
            have HC := Lib.hid hcs
            clear hcs hq
            go_wp2_with fail
            refine ⟨⟨j + 1, by omega, by go_num, hBi, ?_⟩, by simp [intOf]; omega⟩
            rw [HC.out]; exact hown
          · rw [hq] at hbt hcs
            simp only [if_true] at hcs
            have HC := Lib.hid hcs
            clear hcs hq
            go_wp2_with (at_builtin; refine wpList_append_own _ rfl _ _ 25 rfl wo.heap.size 3 i0' (.int .i64 0) 1 8 Try.underlying25 hi' hz0' hz1' hz2' rfl (by decide) _ _ _ rfl (hown.alloc _) ⟨wr.heap.size, 0, none⟩ 1 1 [.int .i64 j] rfl rfl ?c1 ?c2 ?c3 ?c4 ?c5 ?_)
            case c1 => exact cells_new _ _ _ _ rfl
            case c2 => simp [Value.oneCell']
            case c3 => unfold maxLen; omega
            case c4 => omega
            case c5 => simp; omega
            intro l' w3 hown3 hg3 _
            have hBg := grown_below (B := wo.heap.size) hg3 (by simp; omega) (fun b e => (hown.lt _ e).1)
            go_wp2_with fail
            refine ⟨⟨j + 1, by omega, by go_num, ?_, ?_⟩, by simp [intOf]; omega⟩
            · exact (by (repeat (first | assumption | exact Below.refl _ _ | refine Below.alloc ?_ (by (try simp) <;> omega) _ | refine below_drewN ?_ _ | refine Below.drew ?_ | refine Below.setCell ?_ (by (try simp) <;> omega) _ | refine Below.trans ?_ (Below.mono (by assumption) (by (try simp) <;> omega)))) : Below wo.heap.size wo _).trans hBg
            · rw [HC.out]
              have e1 : (ints (idxTo bs.length Z j ++ [(j : Int)])).length = (ints (idxTo bs.length Z j)).length + 1 := by simp [ints]
              have e2 : (ints (idxTo bs.length Z j ++ [(j : Int)])).flatten = (ints (idxTo bs.length Z j)).flatten ++ [.int .i64 j] := by simp [ints]
              rw [e1, e2]; exact hown3
        · have hj' : j = bs.length := by omega
          subst hj'
          have hRd := Rd.of_owns hown (fun r hr => by obtain ⟨z, -, rfl⟩ := List.mem_map.1 hr; rfl)
          rw [← HBI.out] at hRd
          have HRD := Lib.hid hRd
          clear hRd
          go_wp2_with fail
          go_ret2
          exact ⟨_, rfl, HRD.out, hB.trans (hBi.mono hB.size)⟩

set_option maxHeartbeats 1000000 in
theorem best_no (a f : Int) (v : Value) (bs : List Bag) (w : World) (h : Rd w 3 v (bagRows bs)) (he : beginErr a f bs ≠ 0) :
    Calls Try.prog 32 #[.agg #[.int .i64 a, .int .i64 f], v] w fun e w' => e = .returned (.tuple #[.slice none 0 0, .int .i64 (beginErr a f bs)]) ∧ Below w.heap.size w w' := by
  have hB := Below.refl w.heap.size w
  have HR := Lib.hid h
  clear h
  go_enter Try.func32, Try.ntmps32
  go_wp2_with fail
  refine (begin_any a f v bs _ (HR.out.below (below_alloc1 _ _))).mono ?_
  rintro e w1 ⟨rfl, hb⟩
  have l0 : w.heap.size < w1.heap.size := by have := hb.size; simp at this; omega
  have hk : Below w.heap.size w w1 := by (repeat (first | assumption | exact Below.refl _ _ | refine Below.alloc ?_ (by (try simp) <;> omega) _ | refine below_drewN ?_ _ | refine Below.drew ?_ | refine Below.setCell ?_ (by (try simp) <;> omega) _ | refine Below.trans ?_ (Below.mono (by assumption) (by (try simp) <;> omega))))
  replace hB := hB.trans (hk.mono hB.size)
  have hzw1 := hB.size
  clear hk hb
  obtain ⟨x, y, hs⟩ : ∃ x y, beginSort a f bs = .agg #[.int .i64 x, .int .i64 y] := by unfold beginSort; split <;> exact ⟨_, _, rfl⟩
  rw [hs]
  have HS := Lib.hid hs
  clear hs
  go_wp2_with fail
  go_ret2
  exact ⟨rfl, by (repeat (first | assumption | exact Below.refl _ _ | refine Below.alloc ?_ (by (try simp) <;> omega) _ | refine below_drewN ?_ _ | refine Below.drew ?_ | refine Below.setCell ?_ (by (try simp) <;> omega) _ | refine Below.trans ?_ (Below.mono (by assumption) (by (try simp) <;> omega))))⟩

end Go.Proofs.Ytnombgiacfeloaa
