/- Proved here: contracts of functions of the program, each for every input that its statement names. The walks of 'sure' and of the program's 'Judge'. -/
import Derived.Test.YtnombgiacfeloaaW3
namespace Go.Proofs.Ytnombgiacfeloaa
set_option linter.unusedVariables false
set_option linter.unusedSimpArgs false
open Go.RowKit

/-- All bags are as they should be. -/
def Good (bs : List Bag) : Prop := ∀ b ∈ bs, 0 ≤ b.lo ∧ b.lo ≤ b.hi ∧ b.hi ≤ 1000000 ∧ 1 ≤ b.kinds ∧ b.kinds ≤ 255

def sureB (a f : Int) (bs : List Bag) : Bool := fitB f (sumTo (badOf (fun b => foreignB a b.kinds) Bag.hi) bs bs.length) (sumTo (allOf (fun b => foreignB a b.kinds) Bag.hi Bag.lo) bs bs.length)
def mayB (a f : Int) (bs : List Bag) : Bool := fitB f (sumTo (badOf (fun b => !ownB a b.kinds) Bag.lo) bs bs.length) (sumTo (allOf (fun b => !ownB a b.kinds) Bag.lo Bag.hi) bs bs.length)

theorem Good.lo {bs : List Bag} (h : Good bs) : ∀ b ∈ bs, 0 ≤ b.lo ∧ b.lo ≤ 1000000 := fun b hb => by have := h b hb; omega
theorem Good.hi {bs : List Bag} (h : Good bs) : ∀ b ∈ bs, 0 ≤ b.hi ∧ b.hi ≤ 1000000 := fun b hb => by have := h b hb; omega

set_option maxHeartbeats 1000000 in
theorem sure_any (a f : Int) (v : Value) (bs : List Bag) (w : World) (h : Rd w 3 v (bagRows bs)) (hlen : bs.length ≤ 10) (hf0 : 0 ≤ f) (hf : f ≤ 1000) (hg : Good bs) :
    Calls Try.prog 72 #[.agg #[.int .i64 a, .int .i64 f], v] w fun e w' => e = .returned (.bool (sureB a f bs)) ∧ Below w.heap.size w w' := by
  have hB := Below.refl w.heap.size w
  have HR := Lib.hid h
  have HG := Lib.hid hg
  clear h hg
  go_enter Try.func72, Try.ntmps72
  go_wp2_with fail
  refine (fitsSure_any a f v bs _ (HR.out.below (below_alloc1 _ _)) hlen hf0 hf HG.out.hi HG.out.lo).mono ?_
  rintro e w1 ⟨rfl, hb⟩
  have hk : Below w.heap.size w w1 := by (repeat (first | assumption | exact Below.refl _ _ | refine Below.alloc ?_ (by (try simp) <;> omega) _ | refine below_drewN ?_ _ | refine Below.drew ?_ | refine Below.setCell ?_ (by (try simp) <;> omega) _ | refine Below.trans ?_ (Below.mono (by assumption) (by (try simp) <;> omega))))
  replace hB := hB.trans (hk.mono hB.size)
  have hzw1 := hB.size
  clear hk hb
  go_wp2_with fail
  go_ret
  exact ⟨rfl, hB⟩

theorem beginErr_ok {a f : Int} {bs : List Bag} (h : beginErr a f bs = 0) : (1 ≤ a ∧ a ≤ 255) ∧ (0 ≤ f ∧ f ≤ 1000) ∧ bs.length ≤ 10 ∧ Good bs ∧ beginSort a f bs = .agg #[.int .i64 a, .int .i64 f] := by
  unfold beginErr at h
  split at h
  · simp at h
  · rename_i h1
    split at h
    · simp at h
    · rename_i h2
      have h1' := h1
      simp only [anyOut1, Bool.or_eq_true, Bool.not_eq_true', Bool.and_eq_false_iff, decide_eq_false_iff_not] at h1
      refine ⟨by omega, by omega, by omega, ?_, ?_⟩
      · have key : ∀ (l : List Bag) (n : Nat), (firstErr bagErr l n).2 = 0 → Good l := by
          intro l
          induction l with
          | nil => intro n _ b hb; simp at hb
          | cons x l ih =>
            intro n hn
            unfold firstErr at hn
            split at hn
            · rename_i hx
              intro b hb
              rcases List.mem_cons.1 hb with rfl | hb
              · unfold bagErr at hx
                rw [anyOut2, anyOut1] at hx
                split at hx
                · simp at hx
                · rename_i hx1
                  split at hx
                  · simp at hx
                  · simp only [Bool.or_eq_true, Bool.not_eq_true', Bool.and_eq_false_iff, decide_eq_false_iff_not] at hx1
                    omega
              · exact ih _ hn b hb
            · rename_i hx
              exact absurd hn hx
        exact key bs 0 h
      · unfold beginSort
        rw [if_neg]
        simp only [Bool.not_eq_true] at h1'
        simp [h1', h2]

theorem may_any (a f : Int) (B : Nat) (v : Value) (bs : List Bag) (w : World) (p0 : w.cell? ⟨B, 0, none⟩ = some (.int .i64 a)) (p1 : w.cell? ⟨B, 1, none⟩ = some (.int .i64 f)) (h : Rd w 3 v (bagRows bs)) (hlen : bs.length ≤ 10) (hf0 : 0 ≤ f) (hf : f ≤ 1000) (hg : Good bs) :
    Calls Try.prog 73 #[.agg #[.int .i64 a, .int .i64 f], v, .func (.func 74) #[] #[.pointer (some ⟨B, 0, none⟩)], .func (.func 76) #[] #[], .func (.func 77) #[] #[]] w fun e w' => e = .returned (.bool (mayB a f bs)) ∧ Below w.heap.size w w' :=
  fitsBest_any a f B v bs w p0 p1 h hlen hf0 hf hg.lo hg.hi

/-- What a sort says of bags. -/
def verdict (a f : Int) (bs : List Bag) : Int := if sureB a f bs then 1 else if mayB a f bs then 2 else 0

set_option maxHeartbeats 1000000 in
theorem judge_no (a f : Int) (v : Value) (bs : List Bag) (w : World) (h : Rd w 3 v (bagRows bs)) (he : beginErr a f bs ≠ 0) :
    Calls Try.prog 30 #[.agg #[.int .i64 a, .int .i64 f], v] w fun e w' => e = .returned (.tuple #[.int .i64 0, .int .i64 (beginErr a f bs)]) ∧ Below w.heap.size w w' := by
  have hB := Below.refl w.heap.size w
  have HR := Lib.hid h
  clear h
  go_enter Try.func30, Try.ntmps30
  go_wp2_with fail
  refine (begin_any a f v bs _ (HR.out.below (below_alloc1 _ _))).mono ?_
  rintro e w1 ⟨rfl, hb⟩
  have l0 : w.heap.size < w1.heap.size := by have := hb.size; simp at this; omega
  have hk : Below w.heap.size w w1 := by (repeat (first | assumption | exact Below.refl _ _ | refine Below.alloc ?_ (by (try simp) <;> omega) _ | refine below_drewN ?_ _ | refine Below.drew ?_ | refine Below.setCell ?_ (by (try simp) <;> omega) _ | refine Below.trans ?_ (Below.mono (by assumption) (by (try simp) <;> omega))))
  replace hB := hB.trans (hk.mono hB.size)
  have hzw1 := hB.size
  clear hk hb
  obtain ⟨x, y, hs⟩ : ∃ x y, beginSort a f bs = .agg #[.int .i64 x, .int .i64 y] := by unfold beginSort; split <;> exact ⟨_, _, rfl⟩
  rw [hs]
  have HS := Lib.hid hs
  clear hs
  go_wp2_with fail
  go_ret2
  exact ⟨rfl, by (repeat (first | assumption | exact Below.refl _ _ | refine Below.alloc ?_ (by (try simp) <;> omega) _ | refine below_drewN ?_ _ | refine Below.drew ?_ | refine Below.setCell ?_ (by (try simp) <;> omega) _ | refine Below.trans ?_ (Below.mono (by assumption) (by (try simp) <;> omega))))⟩

set_option maxHeartbeats 1000000 in
theorem judge_ok (a f : Int) (v : Value) (bs : List Bag) (w : World) (h : Rd w 3 v (bagRows bs)) (he : beginErr a f bs = 0) :
    Calls Try.prog 30 #[.agg #[.int .i64 a, .int .i64 f], v] w fun e w' => e = .returned (.tuple #[.int .i64 (verdict a f bs), .int .i64 0]) ∧ Below w.heap.size w w' := by
  obtain ⟨-, ⟨hf0, hf⟩, hlen, hg, hs⟩ := beginErr_ok he
  have hB := Below.refl w.heap.size w
  have HR := Lib.hid h
  have HG := Lib.hid hg
  have HE := Lib.hid he
  have HS := Lib.hid hs
  clear h hg he hs
  go_enter Try.func30, Try.ntmps30
  go_wp2_with fail
  refine (begin_any a f v bs _ (HR.out.below (below_alloc1 _ _))).mono ?_
  rw [HE.out, HS.out]
  rintro e w1 ⟨rfl, hb⟩
  have l0 : w.heap.size < w1.heap.size := by have := hb.size; simp at this; omega
  have hk : Below w.heap.size w w1 := by (repeat (first | assumption | exact Below.refl _ _ | refine Below.alloc ?_ (by (try simp) <;> omega) _ | refine below_drewN ?_ _ | refine Below.drew ?_ | refine Below.setCell ?_ (by (try simp) <;> omega) _ | refine Below.trans ?_ (Below.mono (by assumption) (by (try simp) <;> omega))))
  replace hB := hB.trans (hk.mono hB.size)
  have hzw1 := hB.size
  clear hk hb
  go_wp2_with fail
  refine (sure_any a f v bs _ (HR.out.below (by (repeat (first | assumption | exact Below.refl _ _ | refine Below.alloc ?_ (by (try simp) <;> omega) _ | refine below_drewN ?_ _ | refine Below.drew ?_ | refine Below.setCell ?_ (by (try simp) <;> omega) _ | refine Below.trans ?_ (Below.mono (by assumption) (by (try simp) <;> omega)))))) hlen hf0 hf HG.out).mono ?_
  rintro e w2 ⟨rfl, hb⟩
  have g0 : w2.cell? ⟨w1.heap.size, 0, none⟩ = some (.int .i64 a) := keep hb (by simp [go_sem])
  have g1 : w2.cell? ⟨w1.heap.size, 1, none⟩ = some (.int .i64 f) := keep hb (by simp [go_sem])
  have hk : Below w1.heap.size w1 w2 := by (repeat (first | assumption | exact Below.refl _ _ | refine Below.alloc ?_ (by (try simp) <;> omega) _ | refine below_drewN ?_ _ | refine Below.drew ?_ | refine Below.setCell ?_ (by (try simp) <;> omega) _ | refine Below.trans ?_ (Below.mono (by assumption) (by (try simp) <;> omega))))
  replace hB := hB.trans (hk.mono hB.size)
  have hzw2 := hB.size
  clear hk hb
  cases hq : sureB a f bs
  · go_wp2_with fail
    refine (may_any a f w1.heap.size v bs _ g0 g1 (HR.out.below (by (repeat (first | assumption | exact Below.refl _ _ | refine Below.alloc ?_ (by (try simp) <;> omega) _ | refine below_drewN ?_ _ | refine Below.drew ?_ | refine Below.setCell ?_ (by (try simp) <;> omega) _ | refine Below.trans ?_ (Below.mono (by assumption) (by (try simp) <;> omega)))))) hlen hf0 hf HG.out).mono ?_
    rintro e w3 ⟨rfl, hb⟩
    have hk : Below w2.heap.size w2 w3 := by (repeat (first | assumption | exact Below.refl _ _ | refine Below.alloc ?_ (by (try simp) <;> omega) _ | refine below_drewN ?_ _ | refine Below.drew ?_ | refine Below.setCell ?_ (by (try simp) <;> omega) _ | refine Below.trans ?_ (Below.mono (by assumption) (by (try simp) <;> omega))))
    replace hB := hB.trans (hk.mono hB.size)
    have hzw3 := hB.size
    clear hk hb
    cases hq' : mayB a f bs
    · go_wp2_with fail
      go_ret2
      exact ⟨by simp [verdict, hq, hq'], by (repeat (first | assumption | exact Below.refl _ _ | refine Below.alloc ?_ (by (try simp) <;> omega) _ | refine below_drewN ?_ _ | refine Below.drew ?_ | refine Below.setCell ?_ (by (try simp) <;> omega) _ | refine Below.trans ?_ (Below.mono (by assumption) (by (try simp) <;> omega))))⟩
    · go_wp2_with fail
      go_ret2
      exact ⟨by simp [verdict, hq, hq'], by (repeat (first | assumption | exact Below.refl _ _ | refine Below.alloc ?_ (by (try simp) <;> omega) _ | refine below_drewN ?_ _ | refine Below.drew ?_ | refine Below.setCell ?_ (by (try simp) <;> omega) _ | refine Below.trans ?_ (Below.mono (by assumption) (by (try simp) <;> omega))))⟩
  · go_wp2_with fail
    go_ret2
    exact ⟨by simp [verdict, hq], by (repeat (first | assumption | exact Below.refl _ _ | refine Below.alloc ?_ (by (try simp) <;> omega) _ | refine below_drewN ?_ _ | refine Below.drew ?_ | refine Below.setCell ?_ (by (try simp) <;> omega) _ | refine Below.trans ?_ (Below.mono (by assumption) (by (try simp) <;> omega))))⟩

end Go.Proofs.Ytnombgiacfeloaa
