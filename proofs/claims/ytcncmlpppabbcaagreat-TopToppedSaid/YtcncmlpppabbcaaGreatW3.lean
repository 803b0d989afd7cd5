/- Proved here: contracts of functions of the program, each for every input that its statement names. The walks of the first faults of a sort and of bags. Proved here: contracts of functions of the program, each for every input that its statement names. The walks of 'begin', 'fits' and the sums. -/
import Derived.Test.YtcncmlpppabbcaaGreatW1
namespace Go.Proofs.YtcncmlpppabbcaaGreat
set_option linter.unusedVariables false
set_option linter.unusedSimpArgs false
open Go.RowKit

set_option maxHeartbeats 1000000 in
theorem begin1_any (i : Int) (b : Bag) (w : World) :
    Calls Tryz.prog 94 #[.int .i64 i, .agg #[.int .i64 b.lo, .int .i64 b.hi, .int .i64 b.kinds]] w fun e w' => e = .returned (.int .i64 (bagErr b)) ∧ Below w.heap.size w w' := by
  obtain ⟨lo, hi, k⟩ := b

  have hB := Below.refl w.heap.size w
  go_enter Tryz.func94, Tryz.ntmps94
  go_wp2_with fail
  refine (out_any _ _ _ [lo, hi] _ (Rd.made2 _ _ _ _ _ (by simp))).mono ?_
  rintro e w1 ⟨rfl, hb⟩
  have g0 : w1.cell? ⟨w.heap.size, 0, none⟩ = some (.int .i64 lo) := keep hb (by simp)
  have g1 : w1.cell? ⟨w.heap.size, 1, none⟩ = some (.int .i64 hi) := keep hb (by simp)
  have g2 : w1.cell? ⟨w.heap.size, 2, none⟩ = some (.int .i64 k) := keep hb (by simp)
  have l0 := lt_of_cell g0
  have hk : Below w.heap.size w w1 := by (repeat (first | assumption | exact Below.refl _ _ | refine Below.alloc ?_ (by (try simp) <;> omega) _ | refine below_drewN ?_ _ | refine Below.drew ?_ | refine Below.setCell ?_ (by (try simp) <;> omega) _ | refine Below.trans ?_ (Below.mono (by assumption) (by (try simp) <;> omega))))
  replace hB := hB.trans (hk.mono hB.size)
  have hzw1 := hB.size
  clear hk hb
  cases hq1 : anyOut 0 1000000 [lo, hi]
  · go_wp2_with fail
    refine (out_any _ _ _ [k] _ (Rd.made1 _ _ _ _ (by simp))).mono ?_
    rintro e w2 ⟨rfl, hb⟩
    have hk : Below w1.heap.size w1 w2 := by (repeat (first | assumption | exact Below.refl _ _ | refine Below.alloc ?_ (by (try simp) <;> omega) _ | refine below_drewN ?_ _ | refine Below.drew ?_ | refine Below.setCell ?_ (by (try simp) <;> omega) _ | refine Below.trans ?_ (Below.mono (by assumption) (by (try simp) <;> omega))))
    replace hB := hB.trans (hk.mono hB.size)
    have hzw2 := hB.size
    replace g0 := keep hk g0
    replace g1 := keep hk g1
    replace g2 := keep hk g2
    have lg0 := lt_of_cell g0
    clear hk hb
    cases hq2 : anyOut 1 255 [k]
    · by_cases hlt : hi < lo
      all_goals
        go_wp2_with fail
        go_ret
        exact ⟨ret_int (by simp [bagErr, *]), by (repeat (first | assumption | exact Below.refl _ _ | refine Below.alloc ?_ (by (try simp) <;> omega) _ | refine below_drewN ?_ _ | refine Below.drew ?_ | refine Below.setCell ?_ (by (try simp) <;> omega) _ | refine Below.trans ?_ (Below.mono (by assumption) (by (try simp) <;> omega))))⟩
    · go_wp2_with fail
      go_ret
      exact ⟨ret_int (by simp [bagErr, *]), by (repeat (first | assumption | exact Below.refl _ _ | refine Below.alloc ?_ (by (try simp) <;> omega) _ | refine below_drewN ?_ _ | refine Below.drew ?_ | refine Below.setCell ?_ (by (try simp) <;> omega) _ | refine Below.trans ?_ (Below.mono (by assumption) (by (try simp) <;> omega))))⟩
  · go_wp2_with fail
    go_ret
    exact ⟨ret_int (by simp [bagErr, *]), by (repeat (first | assumption | exact Below.refl _ _ | refine Below.alloc ?_ (by (try simp) <;> omega) _ | refine below_drewN ?_ _ | refine Below.drew ?_ | refine Below.setCell ?_ (by (try simp) <;> omega) _ | refine Below.trans ?_ (Below.mono (by assumption) (by (try simp) <;> omega))))⟩

set_option maxHeartbeats 1000000 in
theorem findBags_any (v : Value) (bs : List Bag) (w : World) (h : Rd w 3 v (bagRows bs)) :
    Calls Tryz.prog 93 #[v, .func (.func 94) #[] #[]] w fun e w' => e = .returned (.tuple #[.int .i64 (firstErr bagErr bs 0).1, .int .i64 (firstErr bagErr bs 0).2]) ∧ Below w.heap.size w w' := by
  obtain ⟨a, c, rfl, -, hm, hr⟩ := h.bags
  have H := Lib.hid hr
  clear hr h
  go_enter Tryz.func93, Tryz.ntmps93
  go_wp2_with fail
  go_loopw [10] (fun i wr => ∃ k : Nat, k ≤ bs.length ∧ i = .int .i64 k ∧ Below w.heap.size w wr ∧ Hid (∀ j (hj : j < k) (hz : j < bs.length), bagErr bs[j] = 0)) (fun i _ => bs.length - (intOf i).toNat)
  case atStart => exact ⟨0, Nat.zero_le _, rfl, Below.refl _ _, fun j hj => absurd hj (Nat.not_lt_zero _)⟩
  case round =>
    obtain ⟨k, hk, rfl, hB, A⟩ := hrel
    have hzB := hB.size
    by_cases hlt : k < bs.length
    · obtain ⟨b, off, rfl, hb, hc⟩ := H.out (by omega)
      obtain ⟨g1, g2, g3⟩ := hc k hlt
      clear hc
      rw [← hB.cell (p := ⟨b, _, none⟩) hb] at g1 g2 g3
      generalize hx : bs[k] = x at g1 g2 g3
      have HX := Lib.hid hx
      clear hx
      by_cases hq : bagErr x = 0
      · go_wp2_with fail
        refine (begin1_any _ x _).mono ?_
        rintro e w1 ⟨rfl, hb⟩
        have hk : Below wr.heap.size wr w1 := by (repeat (first | assumption | exact Below.refl _ _ | refine Below.alloc ?_ (by (try simp) <;> omega) _ | refine below_drewN ?_ _ | refine Below.drew ?_ | refine Below.setCell ?_ (by (try simp) <;> omega) _ | refine Below.trans ?_ (Below.mono (by assumption) (by (try simp) <;> omega))))
        replace hB := hB.trans (hk.mono hB.size)
        have hzw1 := hB.size
        clear hk hb
        go_wp2_with fail
        go_roundw
        case rel =>
          refine ⟨k + 1, by omega, by go_num, hB, fun j hj hz => ?_⟩
          by_cases e : j = k
          · subst e; rw [HX.out]; exact hq
          · exact A.out j (by omega) hz
        case measure => simp [intOf]; omega
      · go_wp2_with fail
        refine (begin1_any _ x _).mono ?_
        rintro e w1 ⟨rfl, hb⟩
        have hk : Below wr.heap.size wr w1 := by (repeat (first | assumption | exact Below.refl _ _ | refine Below.alloc ?_ (by (try simp) <;> omega) _ | refine below_drewN ?_ _ | refine Below.drew ?_ | refine Below.setCell ?_ (by (try simp) <;> omega) _ | refine Below.trans ?_ (Below.mono (by assumption) (by (try simp) <;> omega))))
        replace hB := hB.trans (hk.mono hB.size)
        have hzw1 := hB.size
        clear hk hb
        go_wp2_with fail
        go_ret2
        refine ⟨?_, hB⟩
        rw [firstErr_hit bagErr bs 0 k hlt (by rw [HX.out]; exact hq) (fun j hj => A.out j hj _), HX.out]
        simp
    · go_wp2_with fail
      go_ret2
      refine ⟨?_, hB⟩
      rw [firstErr_miss bagErr bs 0 (fun j hj => A.out j (by omega) hj)]
      rfl

end Go.Proofs.YtcncmlpppabbcaaGreat

namespace Go.Proofs.YtcncmlpppabbcaaGreat
set_option linter.unusedVariables false
set_option linter.unusedSimpArgs false
open Go.RowKit

/-- The error of a sort and bags. -/
def beginErr (a f : Int) (bs : List Bag) : Int := if anyOut 1 255 [a] || anyOut 0 1000 [f] then 7 else if 10 < bs.length then 3 else (firstErr bagErr bs 0).2
def beginSort (a f : Int) (bs : List Bag) : Value := if (anyOut 1 255 [a] || anyOut 0 1000 [f]) || decide (10 < bs.length) then .agg #[.int .i64 0, .int .i64 0] else .agg #[.int .i64 a, .int .i64 f]

set_option maxHeartbeats 1000000 in
theorem begin_any (a f : Int) (v : Value) (bs : List Bag) (w : World) (h : Rd w 3 v (bagRows bs)) :
    Calls Tryz.prog 71 #[.agg #[.int .i64 a, .int .i64 f], v] w fun e w' => e = .returned (.tuple #[beginSort a f bs, .int .i64 (beginErr a f bs)]) ∧ Below w.heap.size w w' := by
  have hB := Below.refl w.heap.size w
  have h' := h
  obtain ⟨ad, c, rfl, -, hm, -⟩ := h'
  have HR := Lib.hid h
  clear h
  rw [bagRows_length] at hm HR ⊢
  go_enter Tryz.func71, Tryz.ntmps71
  go_wp2_with fail
  refine (out_any _ _ _ [a] _ (Rd.made1 _ _ _ _ (by simp))).mono ?_
  rintro e w1 ⟨rfl, hb⟩
  have g0 : w1.cell? ⟨w.heap.size, 0, none⟩ = some (.int .i64 a) := keep hb (by simp [go_sem])
  have g1 : w1.cell? ⟨w.heap.size, 1, none⟩ = some (.int .i64 f) := keep hb (by simp [go_sem])
  have r0 : w1.cell? ⟨w.heap.size + 1, 0, none⟩ = some (.int .i64 0) := keep hb (by simp [go_sem])
  have r1 : w1.cell? ⟨w.heap.size + 1, 1, none⟩ = some (.int .i64 0) := keep hb (by simp [go_sem])
  have fr : w1.frozen? ⟨w.heap.size + 1, 0, none⟩ = false := keepF hb (by simp) (by simp [go_sem])
  have fr1 : w1.frozen? ⟨w.heap.size + 1, 1, none⟩ = false := keepF hb (by simp) (by simp [go_sem])
  have l0 := lt_of_cell g0
  have l1 := lt_of_cell r0
  have hk : Below w.heap.size w w1 := by (repeat (first | assumption | exact Below.refl _ _ | refine Below.alloc ?_ (by (try simp) <;> omega) _ | refine below_drewN ?_ _ | refine Below.drew ?_ | refine Below.setCell ?_ (by (try simp) <;> omega) _ | refine Below.trans ?_ (Below.mono (by assumption) (by (try simp) <;> omega))))
  replace hB := hB.trans (hk.mono hB.size)
  have hzw1 := hB.size
  clear hk hb
  cases hq1 : anyOut 1 255 [a]
  · go_wp2_with fail
    refine (out_any _ _ _ [f] _ (Rd.made1 _ _ _ _ (by simp))).mono ?_
    rintro e w2 ⟨rfl, hb⟩
    replace fr := keepF hb (by simp; omega) ((World.frozen?_of_block (w := w1) (Below.heap_alloc _ _ _ (by simpa using l1))).trans fr)
    replace fr1 := keepF hb (by simp; omega) ((World.frozen?_of_block (w := w1) (Below.heap_alloc _ _ _ (by simpa using l1))).trans fr1)
    have hk : Below w1.heap.size w1 w2 := by (repeat (first | assumption | exact Below.refl _ _ | refine Below.alloc ?_ (by (try simp) <;> omega) _ | refine below_drewN ?_ _ | refine Below.drew ?_ | refine Below.setCell ?_ (by (try simp) <;> omega) _ | refine Below.trans ?_ (Below.mono (by assumption) (by (try simp) <;> omega))))
    replace hB := hB.trans (hk.mono hB.size)
    have hzw2 := hB.size
    replace g0 := keep hk g0
    replace g1 := keep hk g1
    replace r0 := keep hk r0
    replace r1 := keep hk r1
    have lg0 := lt_of_cell g0
    have lr0 := lt_of_cell r0
    clear hk hb
    cases hq2 : anyOut 0 1000 [f]
    · by_cases hlt : 10 < bs.length
      · go_wp2_with fail
        exact bodyPost_ret (v := .tuple #[.agg #[.int .i64 0, .int .i64 0], .int .i64 3]) (by simp [results, Tryz.results71, go_sem, *]) rfl ⟨by simp [beginSort, beginErr, *], by (repeat (first | assumption | exact Below.refl _ _ | refine Below.alloc ?_ (by (try simp) <;> omega) _ | refine below_drewN ?_ _ | refine Below.drew ?_ | refine Below.setCell ?_ (by (try simp) <;> omega) _ | refine Below.trans ?_ (Below.mono (by assumption) (by (try simp) <;> omega))))⟩
      · go_wp2_with fail
        refine (findBags_any _ bs _ (HR.out.below hB)).mono ?_
        rintro e w3 ⟨rfl, hb⟩
        replace fr := keepF hb lr0 fr
        replace fr1 := keepF hb lr0 fr1
        have hk : Below w2.heap.size w2 w3 := by (repeat (first | assumption | exact Below.refl _ _ | refine Below.alloc ?_ (by (try simp) <;> omega) _ | refine below_drewN ?_ _ | refine Below.drew ?_ | refine Below.setCell ?_ (by (try simp) <;> omega) _ | refine Below.trans ?_ (Below.mono (by assumption) (by (try simp) <;> omega))))
        replace hB := hB.trans (hk.mono hB.size)
        have hzw3 := hB.size
        replace g0 := keep hk g0
        replace g1 := keep hk g1
        replace r0 := keep hk r0
        replace r1 := keep hk r1
        have lg0 := lt_of_cell g0
        have lr0 := lt_of_cell r0
        clear hk hb
        go_wp2_with fail
        exact bodyPost_ret (v := .tuple #[.agg #[.int .i64 a, .int .i64 f], .int .i64 (firstErr bagErr bs 0).2]) (by simp [results, Tryz.results71, go_sem, *]) rfl ⟨by simp [beginSort, beginErr, *], by (repeat (first | assumption | exact Below.refl _ _ | refine Below.alloc ?_ (by (try simp) <;> omega) _ | refine below_drewN ?_ _ | refine Below.drew ?_ | refine Below.setCell ?_ (by (try simp) <;> omega) _ | refine Below.trans ?_ (Below.mono (by assumption) (by (try simp) <;> omega))))⟩
    · go_wp2_with fail
      exact bodyPost_ret (v := .tuple #[.agg #[.int .i64 0, .int .i64 0], .int .i64 7]) (by simp [results, Tryz.results71, go_sem, *]) rfl ⟨by simp [beginSort, beginErr, *], by (repeat (first | assumption | exact Below.refl _ _ | refine Below.alloc ?_ (by (try simp) <;> omega) _ | refine below_drewN ?_ _ | refine Below.drew ?_ | refine Below.setCell ?_ (by (try simp) <;> omega) _ | refine Below.trans ?_ (Below.mono (by assumption) (by (try simp) <;> omega))))⟩
  · go_wp2_with fail
    exact bodyPost_ret (v := .tuple #[.agg #[.int .i64 0, .int .i64 0], .int .i64 7]) (by simp [results, Tryz.results71, go_sem, *]) rfl ⟨by simp [beginSort, beginErr, *], by (repeat (first | assumption | exact Below.refl _ _ | refine Below.alloc ?_ (by (try simp) <;> omega) _ | refine below_drewN ?_ _ | refine Below.drew ?_ | refine Below.setCell ?_ (by (try simp) <;> omega) _ | refine Below.trans ?_ (Below.mono (by assumption) (by (try simp) <;> omega))))⟩

set_option maxHeartbeats 1000000 in
theorem judge1_any (a f : Int) (b : Bag) (B : Nat) (w : World) (hp0 : w.cell? ⟨B, 0, none⟩ = some (.int .i64 a)) (hp1 : w.cell? ⟨B, 1, none⟩ = some (.int .i64 f)) :
    Calls Tryz.prog 74 #[.agg #[.int .i64 b.lo, .int .i64 b.hi, .int .i64 b.kinds], .pointer (some ⟨B, 0, none⟩)] w fun e w' => e = .returned (.bool (!ownB a b.kinds)) ∧ Below w.heap.size w w' := by
  obtain ⟨lo, hi, k⟩ := b
  have hl := lt_of_cell hp0
  go_enter Tryz.func74, Tryz.ntmps74
  go_wp2_with fail
  refine (own_any a f lo hi k _).mono ?_
  rintro e w1 ⟨rfl, hb⟩
  go_wp2_with fail
  go_ret
  exact ⟨rfl, by (repeat (first | assumption | exact Below.refl _ _ | refine Below.alloc ?_ (by (try simp) <;> omega) _ | refine below_drewN ?_ _ | refine Below.drew ?_ | refine Below.setCell ?_ (by (try simp) <;> omega) _ | refine Below.trans ?_ (Below.mono (by assumption) (by (try simp) <;> omega))))⟩

/-- Whether so much foreign wax, of so much in all, is few enough. -/
def fitB (f bad all : Int) : Bool := decide (bad * 1000 ≤ f * all)

def badOf (p : Bag → Bool) (fst : Bag → Int) (b : Bag) : Int := if p b then fst b else 0
def allOf (p : Bag → Bool) (fst snd : Bag → Int) (b : Bag) : Int := if p b then fst b else snd b

theorem mul_bd (f x : Int) (hf0 : 0 ≤ f) (hf : f ≤ 1000) (M : Int) (hx0 : 0 ≤ x) (hx : x ≤ M) : 0 ≤ f * x ∧ f * x ≤ 1000 * M := by
  refine ⟨Int.mul_nonneg hf0 hx0, ?_⟩
  have h1 : f * x ≤ 1000 * x := Int.mul_le_mul_of_nonneg_right hf hx0
  omega

theorem badOf_bd (p : Bag → Bool) (fst : Bag → Int) (bs : List Bag) (h : ∀ b ∈ bs, 0 ≤ fst b ∧ fst b ≤ 1000000) : ∀ b ∈ bs, 0 ≤ badOf p fst b ∧ badOf p fst b ≤ 1000000 := by
  intro b hb
  have := h b hb
  unfold badOf
  split <;> omega
theorem allOf_bd (p : Bag → Bool) (fst snd : Bag → Int) (bs : List Bag) (h : ∀ b ∈ bs, 0 ≤ fst b ∧ fst b ≤ 1000000) (h' : ∀ b ∈ bs, 0 ≤ snd b ∧ snd b ≤ 1000000) : ∀ b ∈ bs, 0 ≤ allOf p fst snd b ∧ allOf p fst snd b ≤ 1000000 := by
  intro b hb
  have := h b hb
  have := h' b hb
  unfold allOf
  split <;> omega

set_option maxHeartbeats 1000000 in
theorem fitsSure_any (a f : Int) (v : Value) (bs : List Bag) (w : World) (h : Rd w 3 v (bagRows bs)) (hlen : bs.length ≤ 10) (hf0 : 0 ≤ f) (hf : f ≤ 1000)
    (h1 : ∀ b ∈ bs, 0 ≤ b.hi ∧ b.hi ≤ 1000000) (h2 : ∀ b ∈ bs, 0 ≤ b.lo ∧ b.lo ≤ 1000000) :
    Calls Tryz.prog 73 #[.agg #[.int .i64 a, .int .i64 f], v, .func (.func 95) #[.agg #[.int .i64 a, .int .i64 f]] #[], .func (.func 77) #[] #[], .func (.func 76) #[] #[]] w
      fun e w' => e = .returned (.bool (fitB f (sumTo (badOf (fun b => foreignB a b.kinds) Bag.hi) bs bs.length) (sumTo (allOf (fun b => foreignB a b.kinds) Bag.hi Bag.lo) bs bs.length))) ∧ Below w.heap.size w w' := by
  obtain ⟨ad, c, rfl, -, hm, hr⟩ := h.bags
  have H := Lib.hid hr
  have H1 := Lib.hid (badOf_bd (fun b => foreignB a b.kinds) Bag.hi bs h1)
  have H2 := Lib.hid (allOf_bd (fun b => foreignB a b.kinds) Bag.hi Bag.lo bs h1 h2)
  have H3 := Lib.hid h1
  have H4 := Lib.hid h2
  clear hr h h1 h2
  go_enter Tryz.func73, Tryz.ntmps73
  go_wp2_with fail
  go_loopw [11, 12, 18] (fun x y i wr => ∃ k : Nat, k ≤ bs.length ∧ i = .int .i64 k ∧ x = .int .i64 (sumTo (badOf (fun b => foreignB a b.kinds) Bag.hi) bs k) ∧ y = .int .i64 (sumTo (allOf (fun b => foreignB a b.kinds) Bag.hi Bag.lo) bs k) ∧ Below w.heap.size w wr ∧
      wr.cell? ⟨w.heap.size, 0, none⟩ = some (.int .i64 a) ∧ wr.cell? ⟨w.heap.size, 1, none⟩ = some (.int .i64 f)) (fun _ _ i _ => bs.length - (intOf i).toNat)
  case atStart => exact ⟨0, Nat.zero_le _, rfl, by rw [sumTo_zero], by rw [sumTo_zero], below_alloc1 _ _, by simp [go_sem], by simp [go_sem]⟩
  case round =>
    obtain ⟨k, hk, rfl, rfl, rfl, hB, c0, c1⟩ := hrel
    have hzB := hB.size
    have lc0 := lt_of_cell c0
    have b1 := sumTo_bd _ bs 1000000 H1.out k hk
    have b2 := sumTo_bd _ bs 1000000 H2.out k hk
    by_cases hlt : k < bs.length
    · obtain ⟨b, off, rfl, hbl, hc⟩ := H.out (by omega)
      obtain ⟨g1, g2, g3⟩ := hc k hlt
      clear hc
      rw [← hB.cell (p := ⟨b, _, none⟩) hbl] at g1 g2 g3
      have hlb : b < wr.heap.size := by omega
      have s1 := sumTo_succ (badOf (fun b => foreignB a b.kinds) Bag.hi) bs k hlt
      have s2 := sumTo_succ (allOf (fun b => foreignB a b.kinds) Bag.hi Bag.lo) bs k hlt
      have m1 := H3.out bs[k] (List.getElem_mem _)
      have m2 := H4.out bs[k] (List.getElem_mem _)
      generalize bs[k] = x at g1 g2 g3 s1 s2 m1 m2
      have S1 := Lib.hid s1
      have S2 := Lib.hid s2
      clear s1 s2
      obtain ⟨lo, hi, kd⟩ := x
      dsimp only at g1 g2 g3 m1 m2
      generalize sumTo (badOf (fun b => foreignB a b.kinds) Bag.hi) bs k = X at *
      generalize sumTo (allOf (fun b => foreignB a b.kinds) Bag.hi Bag.lo) bs k = Y at *
      go_wp2_with fail
      refine (lo_any lo hi _).mono ?_
      rintro e w1 ⟨rfl, hb⟩
      have d0 : w1.cell? ⟨wr.heap.size, 0, none⟩ = some (.int .i64 lo) := keep hb (by simp [go_sem])
      have d1 : w1.cell? ⟨wr.heap.size, 1, none⟩ = some (.int .i64 hi) := keep hb (by simp [go_sem])
      have d2 : w1.cell? ⟨wr.heap.size, 2, none⟩ = some (.int .i64 kd) := keep hb (by simp [go_sem])
      have hk : Below wr.heap.size wr w1 := by (repeat (first | assumption | exact Below.refl _ _ | refine Below.alloc ?_ (by (try simp) <;> omega) _ | refine below_drewN ?_ _ | refine Below.drew ?_ | refine Below.setCell ?_ (by (try simp) <;> omega) _ | refine Below.trans ?_ (Below.mono (by assumption) (by (try simp) <;> omega))))
      replace hB := hB.trans (hk.mono hB.size)
      have hzw1 := hB.size
      replace c0 := keep hk c0
      replace c1 := keep hk c1
      have lc0 := lt_of_cell c0
      clear hk hb
      have ld := lt_of_cell d0
      go_wp2_with fail
      refine (foreign_any a f lo hi kd _).mono ?_
      rintro e w2 ⟨rfl, hb⟩
      have hk : Below w1.heap.size w1 w2 := by (repeat (first | assumption | exact Below.refl _ _ | refine Below.alloc ?_ (by (try simp) <;> omega) _ | refine below_drewN ?_ _ | refine Below.drew ?_ | refine Below.setCell ?_ (by (try simp) <;> omega) _ | refine Below.trans ?_ (Below.mono (by assumption) (by (try simp) <;> omega))))
      replace hB := hB.trans (hk.mono hB.size)
      have hzw2 := hB.size
      replace c0 := keep hk c0
      replace c1 := keep hk c1
      replace d0 := keep hk d0
      replace d1 := keep hk d1
      replace d2 := keep hk d2
      have lc0 := lt_of_cell c0
      have ld0 := lt_of_cell d0
      clear hk hb
      cases hq : foreignB a kd
      · have e1 : badOf (fun b => foreignB a b.kinds) Bag.hi ⟨lo, hi, kd⟩ = 0 := by simp [badOf, hq]
        have e2 : allOf (fun b => foreignB a b.kinds) Bag.hi Bag.lo ⟨lo, hi, kd⟩ = lo := by simp [allOf, hq]
        rw [e1] at S1
        rw [e2] at S2
        clear e1 e2
        go_wp2_with fail
        refine ⟨⟨k + 1, by omega, by go_num, ?_, ?_, hB, c0, c1⟩, by simp [intOf]; omega⟩
        · rw [S1.out]; simp
        · rw [S2.out]
      · have e1 : badOf (fun b => foreignB a b.kinds) Bag.hi ⟨lo, hi, kd⟩ = hi := by simp [badOf, hq]
        have e2 : allOf (fun b => foreignB a b.kinds) Bag.hi Bag.lo ⟨lo, hi, kd⟩ = hi := by simp [allOf, hq]
        rw [e1] at S1
        rw [e2] at S2
        clear e1 e2
        go_wp2_with fail
        refine (hi_any lo hi _).mono ?_
        rintro e w3 ⟨rfl, hb⟩
        have hk : Below w2.heap.size w2 w3 := by (repeat (first | assumption | exact Below.refl _ _ | refine Below.alloc ?_ (by (try simp) <;> omega) _ | refine below_drewN ?_ _ | refine Below.drew ?_ | refine Below.setCell ?_ (by (try simp) <;> omega) _ | refine Below.trans ?_ (Below.mono (by assumption) (by (try simp) <;> omega))))
        replace hB := hB.trans (hk.mono hB.size)
        have hzw3 := hB.size
        replace c0 := keep hk c0
        replace c1 := keep hk c1
        have lc0 := lt_of_cell c0
        clear hk hb
        go_wp2_with fail
        refine ⟨⟨k + 1, by omega, by go_num, ?_, ?_, hB, c0, c1⟩, by simp [intOf]; omega⟩
        · rw [S1.out]
        · rw [S2.out]
    · have hk' : k = bs.length := by omega
      subst hk'
      generalize hX : sumTo (badOf (fun b => foreignB a b.kinds) Bag.hi) bs bs.length = X at *
      generalize hY : sumTo (allOf (fun b => foreignB a b.kinds) Bag.hi Bag.lo) bs bs.length = Y at *
      have HX := Lib.hid hX
      have HY := Lib.hid hY
      clear hX hY
      have mm := mul_bd f Y hf0 hf 10000000 b2.1 (by omega)
      go_wp2_with fail
      go_ret
      exact ⟨ret_bool (by rw [HX.out, HY.out]; rfl), hB⟩

set_option maxHeartbeats 1000000 in
theorem fitsBest_any (a f : Int) (B : Nat) (v : Value) (bs : List Bag) (w : World) (p0 : w.cell? ⟨B, 0, none⟩ = some (.int .i64 a)) (p1 : w.cell? ⟨B, 1, none⟩ = some (.int .i64 f)) (h : Rd w 3 v (bagRows bs)) (hlen : bs.length ≤ 10) (hf0 : 0 ≤ f) (hf : f ≤ 1000)
    (h1 : ∀ b ∈ bs, 0 ≤ b.lo ∧ b.lo ≤ 1000000) (h2 : ∀ b ∈ bs, 0 ≤ b.hi ∧ b.hi ≤ 1000000) :
    Calls Tryz.prog 73 #[.agg #[.int .i64 a, .int .i64 f], v, .func (.func 74) #[] #[.pointer (some ⟨B, 0, none⟩)], .func (.func 76) #[] #[], .func (.func 77) #[] #[]] w
      fun e w' => e = .returned (.bool (fitB f (sumTo (badOf (fun b => !ownB a b.kinds) Bag.lo) bs bs.length) (sumTo (allOf (fun b => !ownB a b.kinds) Bag.lo Bag.hi) bs bs.length))) ∧ Below w.heap.size w w' := by
  obtain ⟨ad, c, rfl, -, hm, hr⟩ := h.bags
  have H := Lib.hid hr
  have H1 := Lib.hid (badOf_bd (fun b => !ownB a b.kinds) Bag.lo bs h1)
  have H2 := Lib.hid (allOf_bd (fun b => !ownB a b.kinds) Bag.lo Bag.hi bs h1 h2)
  have H3 := Lib.hid h1
  have H4 := Lib.hid h2
  clear hr h h1 h2
  have P0 := Lib.hid p0
  have P1 := Lib.hid p1
  have lp := lt_of_cell p0
  clear p0 p1
  go_enter Tryz.func73, Tryz.ntmps73
  go_wp2_with fail
  go_loopw [11, 12, 18] (fun x y i wr => ∃ k : Nat, k ≤ bs.length ∧ i = .int .i64 k ∧ x = .int .i64 (sumTo (badOf (fun b => !ownB a b.kinds) Bag.lo) bs k) ∧ y = .int .i64 (sumTo (allOf (fun b => !ownB a b.kinds) Bag.lo Bag.hi) bs k) ∧ Below w.heap.size w wr ∧
      wr.cell? ⟨w.heap.size, 0, none⟩ = some (.int .i64 a) ∧ wr.cell? ⟨w.heap.size, 1, none⟩ = some (.int .i64 f)) (fun _ _ i _ => bs.length - (intOf i).toNat)
  case atStart => exact ⟨0, Nat.zero_le _, rfl, by rw [sumTo_zero], by rw [sumTo_zero], below_alloc1 _ _, by simp [go_sem], by simp [go_sem]⟩
  case round =>
    obtain ⟨k, hk, rfl, rfl, rfl, hB, c0, c1⟩ := hrel
    have hzB := hB.size
    have lc0 := lt_of_cell c0
    have b1 := sumTo_bd _ bs 1000000 H1.out k hk
    have b2 := sumTo_bd _ bs 1000000 H2.out k hk
    by_cases hlt : k < bs.length
    · obtain ⟨b, off, rfl, hbl, hc⟩ := H.out (by omega)
      obtain ⟨g1, g2, g3⟩ := hc k hlt
      clear hc
      rw [← hB.cell (p := ⟨b, _, none⟩) hbl] at g1 g2 g3
      have hlb : b < wr.heap.size := by omega
      have s1 := sumTo_succ (badOf (fun b => !ownB a b.kinds) Bag.lo) bs k hlt
      have s2 := sumTo_succ (allOf (fun b => !ownB a b.kinds) Bag.lo Bag.hi) bs k hlt
      have m1 := H3.out bs[k] (List.getElem_mem _)
      have m2 := H4.out bs[k] (List.getElem_mem _)
      generalize bs[k] = x at g1 g2 g3 s1 s2 m1 m2
      have S1 := Lib.hid s1
      have S2 := Lib.hid s2
      clear s1 s2
      obtain ⟨lo, hi, kd⟩ := x
      dsimp only at g1 g2 g3 m1 m2
      generalize sumTo (badOf (fun b => !ownB a b.kinds) Bag.lo) bs k = X at *
      generalize sumTo (allOf (fun b => !ownB a b.kinds) Bag.lo Bag.hi) bs k = Y at *
      go_wp2_with fail
      refine (hi_any lo hi _).mono ?_
      rintro e w1 ⟨rfl, hb⟩
      have d0 : w1.cell? ⟨wr.heap.size, 0, none⟩ = some (.int .i64 lo) := keep hb (by simp [go_sem])
      have d1 : w1.cell? ⟨wr.heap.size, 1, none⟩ = some (.int .i64 hi) := keep hb (by simp [go_sem])
      have d2 : w1.cell? ⟨wr.heap.size, 2, none⟩ = some (.int .i64 kd) := keep hb (by simp [go_sem])
      have hk : Below wr.heap.size wr w1 := by (repeat (first | assumption | exact Below.refl _ _ | refine Below.alloc ?_ (by (try simp) <;> omega) _ | refine below_drewN ?_ _ | refine Below.drew ?_ | refine Below.setCell ?_ (by (try simp) <;> omega) _ | refine Below.trans ?_ (Below.mono (by assumption) (by (try simp) <;> omega))))
      replace hB := hB.trans (hk.mono hB.size)
      have hzw1 := hB.size
      replace c0 := keep hk c0
      replace c1 := keep hk c1
      have lc0 := lt_of_cell c0
      clear hk hb
      have ld := lt_of_cell d0
      go_wp2_with fail
      refine (judge1_any a f ⟨lo, hi, kd⟩ B _ (keep hB P0.out) (keep hB P1.out)).mono ?_
      rintro e w2 ⟨rfl, hb⟩
      have hk : Below w1.heap.size w1 w2 := by (repeat (first | assumption | exact Below.refl _ _ | refine Below.alloc ?_ (by (try simp) <;> omega) _ | refine below_drewN ?_ _ | refine Below.drew ?_ | refine Below.setCell ?_ (by (try simp) <;> omega) _ | refine Below.trans ?_ (Below.mono (by assumption) (by (try simp) <;> omega))))
      replace hB := hB.trans (hk.mono hB.size)
      have hzw2 := hB.size
      replace c0 := keep hk c0
      replace c1 := keep hk c1
      replace d0 := keep hk d0
      replace d1 := keep hk d1
      replace d2 := keep hk d2
      have lc0 := lt_of_cell c0
      have ld0 := lt_of_cell d0
      clear hk hb
      cases hq : ownB a kd
      · have e1 : badOf (fun b => !ownB a b.kinds) Bag.lo ⟨lo, hi, kd⟩ = lo := by simp [badOf, hq]
        have e2 : allOf (fun b => !ownB a b.kinds) Bag.lo Bag.hi ⟨lo, hi, kd⟩ = lo := by simp [allOf, hq]
        rw [e1] at S1
        rw [e2] at S2
        clear e1 e2
        go_wp2_with fail
        refine (lo_any lo hi _).mono ?_
        rintro e w3 ⟨rfl, hb⟩
        have hk : Below w2.heap.size w2 w3 := by (repeat (first | assumption | exact Below.refl _ _ | refine Below.alloc ?_ (by (try simp) <;> omega) _ | refine below_drewN ?_ _ | refine Below.drew ?_ | refine Below.setCell ?_ (by (try simp) <;> omega) _ | refine Below.trans ?_ (Below.mono (by assumption) (by (try simp) <;> omega))))
        replace hB := hB.trans (hk.mono hB.size)
        have hzw3 := hB.size
        replace c0 := keep hk c0
        replace c1 := keep hk c1
        have lc0 := lt_of_cell c0
        clear hk hb
        go_wp2_with fail
        refine ⟨⟨k + 1, by omega, by go_num, ?_, ?_, hB, c0, c1⟩, by simp [intOf]; omega⟩
        · rw [S1.out]
        · rw [S2.out]
      · have e1 : badOf (fun b => !ownB a b.kinds) Bag.lo ⟨lo, hi, kd⟩ = 0 := by simp [badOf, hq]
        have e2 : allOf (fun b => !ownB a b.kinds) Bag.lo Bag.hi ⟨lo, hi, kd⟩ = hi := by simp [allOf, hq]
        rw [e1] at S1
        rw [e2] at S2
        clear e1 e2
        go_wp2_with fail
        refine ⟨⟨k + 1, by omega, by go_num, ?_, ?_, hB, c0, c1⟩, by simp [intOf]; omega⟩
        · rw [S1.out]; simp
        · rw [S2.out]
    · have hk' : k = bs.length := by omega
      subst hk'
      generalize hX : sumTo (badOf (fun b => !ownB a b.kinds) Bag.lo) bs bs.length = X at *
      generalize hY : sumTo (allOf (fun b => !ownB a b.kinds) Bag.lo Bag.hi) bs bs.length = Y at *
      have HX := Lib.hid hX
      have HY := Lib.hid hY
      clear hX hY
      have mm := mul_bd f Y hf0 hf 10000000 b2.1 (by omega)
      go_wp2_with fail
      go_ret
      exact ⟨ret_bool (by rw [HX.out, HY.out]; rfl), hB⟩

end Go.Proofs.YtcncmlpppabbcaaGreat
