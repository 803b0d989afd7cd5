/- Proved here: contracts of functions of the program, each for every input that its statement names. The walks of 'sure' and of the program's 'Judge'. Proved here: contracts of functions of the program, each for every input that its statement names. The walks of the comparisons and of 'least'. -/
import Derived.Test.YtcncmlpppabbcaaGreatW3
import Derived.Test.YtcncmlpppabbcaaGreatM1
import Derived.Deep.RegionHeld3
namespace Go.Proofs.YtcncmlpppabbcaaGreat
set_option linter.unusedVariables false
set_option linter.unusedSimpArgs false
open Go.RowKit

/-- All bags are as they should be. -/
def Good (bs : List Bag) : Prop := ∀ b ∈ bs, 0 ≤ b.lo ∧ b.lo ≤ b.hi ∧ b.hi ≤ 1000000 ∧ 1 ≤ b.kinds ∧ b.kinds ≤ 255

def sureB (a f : Int) (bs : List Bag) : Bool := fitB f (sumTo (badOf (fun b => foreignB a b.kinds) Bag.hi) bs bs.length) (sumTo (allOf (fun b => foreignB a b.kinds) Bag.hi Bag.lo) bs bs.length)
def mayB (a f : Int) (bs : List Bag) : Bool := fitB f (sumTo (badOf (fun b => !ownB a b.kinds) Bag.lo) bs bs.length) (sumTo (allOf (fun b => !ownB a b.kinds) Bag.lo Bag.hi) bs bs.length)

theorem Good.lo {bs : List Bag} (h : Good bs) : ∀ b ∈ bs, 0 ≤ b.lo ∧ b.lo ≤ 1000000 := fun b hb => by have := h b hb; omega
theorem Good.hi {bs : List Bag} (h : Good bs) : ∀ b ∈ bs, 0 ≤ b.hi ∧ b.hi ≤ 1000000 := fun b hb => by have := h b hb; omega

set_option maxHeartbeats 1000000 in
theorem sure_any (a f : Int) (v : Value) (bs : List Bag) (w : World) (h : Rd w 3 v (bagRows bs)) (hlen : bs.length ≤ 10) (hf0 : 0 ≤ f) (hf : f ≤ 1000) (hg : Good bs) :
    Calls Tryz.prog 72 #[.agg #[.int .i64 a, .int .i64 f], v] w fun e w' => e = .returned (.bool (sureB a f bs)) ∧ Below w.heap.size w w' := by
  have hB := Below.refl w.heap.size w
  have HR := Lib.hid h
  have HG := Lib.hid hg
  clear h hg
  go_enter Tryz.func72, Tryz.ntmps72
  go_wp2_with fail
  refine (fitsSure_any a f v bs _ (HR.out.below (below_alloc1 _ _)) hlen hf0 hf HG.out.hi HG.out.lo).mono ?_
  rintro e w1 ⟨rfl, hb⟩
  have hk : Below w.heap.size w w1 := by (repeat (first | assumption | exact Below.refl _ _ | refine Below.alloc ?_ (by (try simp) <;> omega) _ | refine below_drewN ?_ _ | refine Below.drew ?_ | refine Below.setCell ?_ (by (try simp) <;> omega) _ | refine Below.trans ?_ (Below.mono (by assumption) (by (try simp) <;> omega))))
  replace hB := hB.trans (hk.mono hB.size)
  have hzw1 := hB.size
  clear hk hb
  go_wp2_with fail
  go_ret
  exact ⟨rfl, hB⟩

theorem beginErr_ok {a f : Int} {bs : List Bag} (h : beginErr a f bs = 0) : (1 ≤ a ∧ a ≤ 255) ∧ (0 ≤ f ∧ f ≤ 1000) ∧ bs.length ≤ 10 ∧ Good bs ∧ beginSort a f bs = .agg #[.int .i64 a, .int .i64 f] := by
  unfold beginErr at h
  split at h
  · simp at h
  · rename_i h1
    split at h
    · simp at h
    · rename_i h2
      have h1' := h1
      simp only [anyOut1, Bool.or_eq_true, Bool.not_eq_true', Bool.and_eq_false_iff, decide_eq_false_iff_not] at h1
      refine ⟨by omega, by omega, by omega, ?_, ?_⟩
      · have key : ∀ (l : List Bag) (n : Nat), (firstErr bagErr l n).2 = 0 → Good l := by
          intro l
          induction l with
          | nil => intro n _ b hb; simp at hb
          | cons x l ih =>
            intro n hn
            unfold firstErr at hn
            split at hn
            · rename_i hx
              intro b hb
              rcases List.mem_cons.1 hb with rfl | hb
              · unfold bagErr at hx
                rw [anyOut2, anyOut1] at hx
                split at hx
                · simp at hx
                · rename_i hx1
                  split at hx
                  · simp at hx
                  · simp only [Bool.or_eq_true, Bool.not_eq_true', Bool.and_eq_false_iff, decide_eq_false_iff_not] at hx1
                    omega
              · exact ih _ hn b hb
            · rename_i hx
              exact absurd hn hx
        exact key bs 0 h
      · unfold beginSort
        rw [if_neg]
        simp only [Bool.not_eq_true] at h1'
        simp [h1', h2]

theorem may_any (a f : Int) (B : Nat) (v : Value) (bs : List Bag) (w : World) (p0 : w.cell? ⟨B, 0, none⟩ = some (.int .i64 a)) (p1 : w.cell? ⟨B, 1, none⟩ = some (.int .i64 f)) (h : Rd w 3 v (bagRows bs)) (hlen : bs.length ≤ 10) (hf0 : 0 ≤ f) (hf : f ≤ 1000) (hg : Good bs) :
    Calls Tryz.prog 73 #[.agg #[.int .i64 a, .int .i64 f], v, .func (.func 74) #[] #[.pointer (some ⟨B, 0, none⟩)], .func (.func 76) #[] #[], .func (.func 77) #[] #[]] w fun e w' => e = .returned (.bool (mayB a f bs)) ∧ Below w.heap.size w w' :=
  fitsBest_any a f B v bs w p0 p1 h hlen hf0 hf hg.lo hg.hi

/-- What a sort says of bags. -/
def verdict (a f : Int) (bs : List Bag) : Int := if sureB a f bs then 1 else if mayB a f bs then 2 else 0

set_option maxHeartbeats 1000000 in
theorem judge_no (a f : Int) (v : Value) (bs : List Bag) (w : World) (h : Rd w 3 v (bagRows bs)) (he : beginErr a f bs ≠ 0) :
    Calls Tryz.prog 39 #[.agg #[.int .i64 a, .int .i64 f], v] w fun e w' => e = .returned (.tuple #[.int .i64 0, .int .i64 (beginErr a f bs)]) ∧ Below w.heap.size w w' := by
  have hB := Below.refl w.heap.size w
  have HR := Lib.hid h
  clear h
  go_enter Tryz.func39, Tryz.ntmps39
  go_wp2_with fail
  refine (begin_any a f v bs _ (HR.out.below (below_alloc1 _ _))).mono ?_
  rintro e w1 ⟨rfl, hb⟩
  have l0 : w.heap.size < w1.heap.size := by have := hb.size; simp at this; omega
  have hk : Below w.heap.size w w1 := by (repeat (first | assumption | exact Below.refl _ _ | refine Below.alloc ?_ (by (try simp) <;> omega) _ | refine below_drewN ?_ _ | refine Below.drew ?_ | refine Below.setCell ?_ (by (try simp) <;> omega) _ | refine Below.trans ?_ (Below.mono (by assumption) (by (try simp) <;> omega))))
  replace hB := hB.trans (hk.mono hB.size)
  have hzw1 := hB.size
  clear hk hb
  obtain ⟨x, y, hs⟩ : ∃ x y, beginSort a f bs = .agg #[.int .i64 x, .int .i64 y] := by unfold beginSort; split <;> exact ⟨_, _, rfl⟩
  rw [hs]
  have HS := Lib.hid hs
  clear hs
  go_wp2_with fail
  go_ret2
  exact ⟨rfl, by (repeat (first | assumption | exact Below.refl _ _ | refine Below.alloc ?_ (by (try simp) <;> omega) _ | refine below_drewN ?_ _ | refine Below.drew ?_ | refine Below.setCell ?_ (by (try simp) <;> omega) _ | refine Below.trans ?_ (Below.mono (by assumption) (by (try simp) <;> omega))))⟩

set_option maxHeartbeats 1000000 in
theorem judge_ok (a f : Int) (v : Value) (bs : List Bag) (w : World) (h : Rd w 3 v (bagRows bs)) (he : beginErr a f bs = 0) :
    Calls Tryz.prog 39 #[.agg #[.int .i64 a, .int .i64 f], v] w fun e w' => e = .returned (.tuple #[.int .i64 (verdict a f bs), .int .i64 0]) ∧ Below w.heap.size w w' := by
  obtain ⟨-, ⟨hf0, hf⟩, hlen, hg, hs⟩ := beginErr_ok he
  have hB := Below.refl w.heap.size w
  have HR := Lib.hid h
  have HG := Lib.hid hg
  have HE := Lib.hid he
  have HS := Lib.hid hs
  clear h hg he hs
  go_enter Tryz.func39, Tryz.ntmps39
  go_wp2_with fail
  refine (begin_any a f v bs _ (HR.out.below (below_alloc1 _ _))).mono ?_
  rw [HE.out, HS.out]
  rintro e w1 ⟨rfl, hb⟩
  have l0 : w.heap.size < w1.heap.size := by have := hb.size; simp at this; omega
  have hk : Below w.heap.size w w1 := by (repeat (first | assumption | exact Below.refl _ _ | refine Below.alloc ?_ (by (try simp) <;> omega) _ | refine below_drewN ?_ _ | refine Below.drew ?_ | refine Below.setCell ?_ (by (try simp) <;> omega) _ | refine Below.trans ?_ (Below.mono (by assumption) (by (try simp) <;> omega))))
  replace hB := hB.trans (hk.mono hB.size)
  have hzw1 := hB.size
  clear hk hb
  go_wp2_with fail
  refine (sure_any a f v bs _ (HR.out.below (by (repeat (first | assumption | exact Below.refl _ _ | refine Below.alloc ?_ (by (try simp) <;> omega) _ | refine below_drewN ?_ _ | refine Below.drew ?_ | refine Below.setCell ?_ (by (try simp) <;> omega) _ | refine Below.trans ?_ (Below.mono (by assumption) (by (try simp) <;> omega)))))) hlen hf0 hf HG.out).mono ?_
  rintro e w2 ⟨rfl, hb⟩
  have g0 : w2.cell? ⟨w1.heap.size, 0, none⟩ = some (.int .i64 a) := keep hb (by simp [go_sem])
  have g1 : w2.cell? ⟨w1.heap.size, 1, none⟩ = some (.int .i64 f) := keep hb (by simp [go_sem])
  have hk : Below w1.heap.size w1 w2 := by (repeat (first | assumption | exact Below.refl _ _ | refine Below.alloc ?_ (by (try simp) <;> omega) _ | refine below_drewN ?_ _ | refine Below.drew ?_ | refine Below.setCell ?_ (by (try simp) <;> omega) _ | refine Below.trans ?_ (Below.mono (by assumption) (by (try simp) <;> omega))))
  replace hB := hB.trans (hk.mono hB.size)
  have hzw2 := hB.size
  clear hk hb
  cases hq : sureB a f bs
  · go_wp2_with fail
    refine (may_any a f w1.heap.size v bs _ g0 g1 (HR.out.below (by (repeat (first | assumption | exact Below.refl _ _ | refine Below.alloc ?_ (by (try simp) <;> omega) _ | refine below_drewN ?_ _ | refine Below.drew ?_ | refine Below.setCell ?_ (by (try simp) <;> omega) _ | refine Below.trans ?_ (Below.mono (by assumption) (by (try simp) <;> omega)))))) hlen hf0 hf HG.out).mono ?_
    rintro e w3 ⟨rfl, hb⟩
    have hk : Below w2.heap.size w2 w3 := by (repeat (first | assumption | exact Below.refl _ _ | refine Below.alloc ?_ (by (try simp) <;> omega) _ | refine below_drewN ?_ _ | refine Below.drew ?_ | refine Below.setCell ?_ (by (try simp) <;> omega) _ | refine Below.trans ?_ (Below.mono (by assumption) (by (try simp) <;> omega))))
    replace hB := hB.trans (hk.mono hB.size)
    have hzw3 := hB.size
    clear hk hb
    cases hq' : mayB a f bs
    · go_wp2_with fail
      go_ret2
      exact ⟨by simp [verdict, hq, hq'], by (repeat (first | assumption | exact Below.refl _ _ | refine Below.alloc ?_ (by (try simp) <;> omega) _ | refine below_drewN ?_ _ | refine Below.drew ?_ | refine Below.setCell ?_ (by (try simp) <;> omega) _ | refine Below.trans ?_ (Below.mono (by assumption) (by (try simp) <;> omega))))⟩
    · go_wp2_with fail
      go_ret2
      exact ⟨by simp [verdict, hq, hq'], by (repeat (first | assumption | exact Below.refl _ _ | refine Below.alloc ?_ (by (try simp) <;> omega) _ | refine below_drewN ?_ _ | refine Below.drew ?_ | refine Below.setCell ?_ (by (try simp) <;> omega) _ | refine Below.trans ?_ (Below.mono (by assumption) (by (try simp) <;> omega))))⟩
  · go_wp2_with fail
    go_ret2
    exact ⟨by simp [verdict, hq], by (repeat (first | assumption | exact Below.refl _ _ | refine Below.alloc ?_ (by (try simp) <;> omega) _ | refine below_drewN ?_ _ | refine Below.drew ?_ | refine Below.setCell ?_ (by (try simp) <;> omega) _ | refine Below.trans ?_ (Below.mono (by assumption) (by (try simp) <;> omega))))⟩

end Go.Proofs.YtcncmlpppabbcaaGreat

namespace Go.Proofs.YtcncmlpppabbcaaGreat
set_option linter.unusedVariables false
set_option linter.unusedSimpArgs false
open Go.RowKit

theorem orI_hit (l : List Int) (k : Nat) (hk : k < l.length) (h : l[k] ≠ 0) (hn : ∀ j (hj : j < k), l[j]'(by omega) = 0) : orI l = l[k] := by
  induction l generalizing k with
  | nil => simp at hk
  | cons x l ih =>
    cases k with
    | zero => simp at h; simp [orI, h]
    | succ k =>
      have h0 := hn 0 (by omega)
      simp at h0
      have := ih k (by simpa using hk) (by simpa using h) (fun j hj => by have := hn (j + 1) (by omega); simpa using this)
      simp [orI, h0, this]

theorem orI_miss (l : List Int) (hn : ∀ j (hj : j < l.length), l[j] = 0) : orI l = 0 := by
  induction l with
  | nil => rfl
  | cons x l ih =>
    have h0 := hn 0 (by simp)
    simp at h0
    have := ih (fun j hj => by have := hn (j + 1) (by simpa using hj); simpa using this)
    simp [orI, h0, this]

set_option maxHeartbeats 1000000 in
theorem or_any (v : Value) (zs : List Int) (w : World) (h : Rd w 1 v (ints zs)) :
    Calls Tryz.prog 81 #[v] w fun e w' => e = .returned (.int .i64 (orI zs)) ∧ w = w' := by
  obtain ⟨a, c, rfl, -, hm, hr⟩ := h.ints
  have H := Lib.hid hr
  clear hr h
  go_enter Tryz.func81, Tryz.ntmps81
  go_wp2
  go_loop [8] (fun i => ∃ k : Nat, k ≤ zs.length ∧ i = .int .i64 k ∧ Hid (∀ j (hj : j < k) (hz : j < zs.length), zs[j] = 0)) (fun i => zs.length - (intOf i).toNat)
  case atStart => exact ⟨0, Nat.zero_le _, rfl, fun j hj => absurd hj (Nat.not_lt_zero _)⟩
  case round =>
    obtain ⟨k, hk, rfl, A⟩ := hrel
    by_cases hlt : k < zs.length
    · obtain ⟨b, off, rfl, hb, hc⟩ := H.out (by omega)
      have hcell := hc k hlt
      clear hc
      generalize hz : zs[k] = z at hcell
      have HZ := Lib.hid hz
      clear hz
      by_cases hq : z = 0
      · have hq' : (z != 0) = false := by simp [hq]
        have HQ := Lib.hid hq
        clear hq
        go_wp2
        go_round
        case rel =>
          refine ⟨k + 1, by omega, by go_num, fun j hj hz => ?_⟩
          by_cases e : j = k
          · subst e; rw [HZ.out]; exact HQ.out
          · exact A.out j (by omega) hz
        case measure => simp [intOf]; omega
      · have hq' : (z != 0) = true := by simp [hq]
        have HQ := Lib.hid hq
        clear hq
        go_wp2
        go_ret
        refine ⟨ret_int ?_, rfl⟩
        rw [orI_hit zs k hlt (by rw [HZ.out]; exact HQ.out) (fun j hj => A.out j hj _), HZ.out]
    · go_wp2
      go_ret
      refine ⟨ret_int ?_, rfl⟩
      rw [orI_miss zs (fun j hj => A.out j (by omega) hj)]

set_option maxHeartbeats 400000 in
theorem best1_any (g m b : Int) (w : World) (hg : 0 ≤ g) (hg' : g ≤ 10000000) : Calls Tryz.prog 78 #[.agg #[.int .i64 g, .int .i64 m, .int .i64 b]] w fun e w' => e = .returned (.int .i64 (-g)) ∧ Below w.heap.size w w' := by
  go_enter Tryz.func78, Tryz.ntmps78
  go_wp2
  go_ret
  exact ⟨rfl, by (repeat (first | assumption | exact Below.refl _ _ | refine Below.alloc ?_ (by (try simp) <;> omega) _ | refine below_drewN ?_ _ | refine Below.drew ?_ | refine Below.setCell ?_ (by (try simp) <;> omega) _ | refine Below.trans ?_ (Below.mono (by assumption) (by (try simp) <;> omega))))⟩

set_option maxHeartbeats 400000 in
theorem best2_any (g m b : Int) (w : World) : Calls Tryz.prog 79 #[.agg #[.int .i64 g, .int .i64 m, .int .i64 b]] w fun e w' => e = .returned (.int .i64 m) ∧ Below w.heap.size w w' := by
  go_enter Tryz.func79, Tryz.ntmps79
  go_wp2
  go_ret
  exact ⟨rfl, by (repeat (first | assumption | exact Below.refl _ _ | refine Below.alloc ?_ (by (try simp) <;> omega) _ | refine below_drewN ?_ _ | refine Below.drew ?_ | refine Below.setCell ?_ (by (try simp) <;> omega) _ | refine Below.trans ?_ (Below.mono (by assumption) (by (try simp) <;> omega))))⟩

set_option maxHeartbeats 400000 in
theorem best3_any (g m b : Int) (w : World) (hg : 0 ≤ b) (hg' : b ≤ 10000000) : Calls Tryz.prog 80 #[.agg #[.int .i64 g, .int .i64 m, .int .i64 b]] w fun e w' => e = .returned (.int .i64 (-b)) ∧ Below w.heap.size w w' := by
  go_enter Tryz.func80, Tryz.ntmps80
  go_wp2
  go_ret
  exact ⟨rfl, by (repeat (first | assumption | exact Below.refl _ _ | refine Below.alloc ?_ (by (try simp) <;> omega) _ | refine below_drewN ?_ _ | refine Below.drew ?_ | refine Below.setCell ?_ (by (try simp) <;> omega) _ | refine Below.trans ?_ (Below.mono (by assumption) (by (try simp) <;> omega))))⟩

/- slices.Min at one number. -/
set_option maxHeartbeats 1000000 in
theorem min1_any (a : Addr) (x : Int) (w : World) (h : w.cell? a = some (.int .i64 x)) :
    Calls Tryz.prog 102 #[.slice (some a) 1 1] w fun e w' => e = .returned (.int .i64 x) ∧ w = w' := by
  go_enter Tryz.func102, Tryz.ntmps102
  go_wp2
  go_loop [3, 4] (fun x' i => x' = .int .i64 x ∧ i = .int .i64 1) (fun _ _ => 0)
  case atStart => exact ⟨rfl, rfl⟩
  case round =>
    obtain ⟨rfl, rfl⟩ := hrel
    go_wp2
    go_ret
    exact ⟨rfl, rfl⟩

/- 'least(&m, n)': the cell becomes the less of both. -/
set_option maxHeartbeats 1000000 in
theorem least_any (p a : Addr) (x y : Int) (w : World) (hp : w.cell? p = some (.int .i64 x)) (hf : w.frozen? p = false) (ha : w.cell? a = some (.int .i64 y)) :
    Calls Tryz.prog 88 #[.pointer (some p), .slice (some a) 1 1] w fun e w' => e = .returned (.tuple #[]) ∧ w' = (w.setCell p (.int .i64 (min x y))).drew := by
  go_enter Tryz.func88, Tryz.ntmps88
  go_wp2
  go_region_with (go_at_call 102; refine (min1_any _ y _ ?_).mono ?_; (simp [*]); rintro e w' ⟨rfl, rfl⟩)
  all_goals go_wp2
  all_goals
    go_end0
    refine ⟨rfl, ?_⟩
    first
      | (have e : min x y = y := by omega
         rw [e])
      | (have e : min x y = x := by omega
         rw [e])

end Go.Proofs.YtcncmlpppabbcaaGreat
