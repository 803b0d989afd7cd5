/- The walk of the reference's Judge; its verdict is the program's. -/
import Derived.Test.YtnombgiacfeloaaR4
namespace Go.Proofs.Ytnombgiacfeloaa
set_option linter.unusedVariables false
set_option linter.unusedSimpArgs false
open Go.RowKit

theorem sumTo_add {α : Type} (f g h : α → Int) (l : List α) (e : ∀ x ∈ l, h x = f x + g x) (k : Nat) (hk : k ≤ l.length) : sumTo h l k = sumTo f l k + sumTo g l k := by
  induction k with
  | zero => simp [sumTo_zero]
  | succ k ih =>
    rw [sumTo_succ f l k (by omega), sumTo_succ g l k (by omega), sumTo_succ h l k (by omega), ih (by omega), e _ (List.getElem_mem _)]
    omega

theorem sumTo_congr {α : Type} (f g : α → Int) (l : List α) (e : ∀ x ∈ l, f x = g x) (k : Nat) (hk : k ≤ l.length) : sumTo f l k = sumTo g l k := by
  induction k with
  | zero => simp [sumTo_zero]
  | succ k ih =>
    rw [sumTo_succ f l k (by omega), sumTo_succ g l k (by omega), ih (by omega), e _ (List.getElem_mem _)]

theorem judgeR_eq (a f : Int) (bs : List Bag) : judgeR a f bs = verdict a f bs := by
  have e1 : fitsR f (sumTo (badR a) bs bs.length) (sumTo (restR a) bs bs.length) = sureB a f bs := by
    unfold fitsR sureB fitB
    rw [sumTo_congr (badR a) (badOf (fun b => foreignB a b.kinds) Bag.hi) bs (fun x _ => rfl) _ (Nat.le_refl _),
      sumTo_add (badOf (fun b => foreignB a b.kinds) Bag.hi) (restR a) (allOf (fun b => foreignB a b.kinds) Bag.hi Bag.lo) bs (fun x _ => by unfold allOf badOf restR; dsimp only; split <;> omega) _ (Nat.le_refl _)]
  have e2 : fitsR f (sumTo (forR a) bs bs.length) (sumTo (goodR a) bs bs.length) = mayB a f bs := by
    unfold fitsR mayB fitB
    rw [sumTo_congr (forR a) (badOf (fun b => !ownB a b.kinds) Bag.lo) bs (fun x _ => by unfold forR badOf; cases hq : ownB a x.kinds <;> simp [hq]) _ (Nat.le_refl _),
      sumTo_add (badOf (fun b => !ownB a b.kinds) Bag.lo) (goodR a) (allOf (fun b => !ownB a b.kinds) Bag.lo Bag.hi) bs (fun x _ => by unfold allOf badOf goodR; cases hq : ownB a x.kinds <;> simp [hq]) _ (Nat.le_refl _)]
  unfold judgeR verdict
  rw [e1, e2]

/-- What Judge returns, of the program and of the reference. -/
def judgeAt (a f : Int) (bs : List Bag) : Int := if beginErr a f bs = 0 then verdict a f bs else 0

set_option maxHeartbeats 400000 in
theorem refJudge_any (a f : Int) (v : Value) (bs : List Bag) (w : World) (h : Rd w 3 v (bagRows bs)) :
    Calls Try.prog 31 #[.agg #[.int .i64 a, .int .i64 f], v] w fun e w' => e = .returned (.tuple #[.int .i64 (judgeAt a f bs), .int .i64 (beginErr a f bs)]) ∧ Below w.heap.size w w' := by
  have hB := Below.refl w.heap.size w
  have HR := Lib.hid h
  clear h
  go_enter Try.func31, Try.ntmps31
  go_wp2_with fail
  refine (refBags_any a f v bs _ (HR.out.below (below_alloc1 _ _))).mono ?_
  rintro e w1 ⟨rfl, hb⟩
  have c0 : w1.cell? ⟨w.heap.size, 0, none⟩ = some (.int .i64 a) := keep hb (by simp [go_sem])
  have c1 : w1.cell? ⟨w.heap.size, 1, none⟩ = some (.int .i64 f) := keep hb (by simp [go_sem])
  have hk : Below w.heap.size w w1 := by (repeat (first | assumption | exact Below.refl _ _ | refine Below.alloc ?_ (by (try simp) <;> omega) _ | refine below_drewN ?_ _ | refine Below.drew ?_ | refine Below.setCell ?_ (by (try simp) <;> omega) _ | refine Below.trans ?_ (Below.mono (by assumption) (by (try simp) <;> omega))))
  replace hB := hB.trans (hk.mono hB.size)
  have hzw1 := hB.size
  clear hk hb
  by_cases hq : beginErr a f bs = 0
  · have t1 : (beginErr a f bs != 0) = false := by simp [hq]
    obtain ⟨q1, q2, q3, q4, -⟩ := beginErr_ok hq
    have e1 : judgeAt a f bs = judgeR a f bs := by rw [judgeR_eq]; simp [judgeAt, hq]
    have E1 := Lib.hid e1
    have HQ := Lib.hid hq
    rw [hq] at t1 ⊢
    clear hq e1
    go_wp2_with fail
    refine (refjudge_any a f v bs _ (HR.out.below hB) q1 q2.1 q2.2 q3 q4).mono ?_
    rintro e w2 ⟨rfl, hb⟩
    have hk : Below w1.heap.size w1 w2 := by (repeat (first | assumption | exact Below.refl _ _ | refine Below.alloc ?_ (by (try simp) <;> omega) _ | refine below_drewN ?_ _ | refine Below.drew ?_ | refine Below.setCell ?_ (by (try simp) <;> omega) _ | refine Below.trans ?_ (Below.mono (by assumption) (by (try simp) <;> omega))))
    replace hB := hB.trans (hk.mono hB.size)
    have hzw2 := hB.size
    clear hk hb
    go_wp2_with fail
    go_ret2
    exact ⟨by rw [E1.out, HQ.out]; rfl, hB⟩
  · have t1 : (beginErr a f bs != 0) = true := by simp [hq]
    have e1 : judgeAt a f bs = 0 := by simp [judgeAt, hq]
    have E1 := Lib.hid e1
    clear hq e1
    go_wp2_with fail
    go_ret2
    exact ⟨by rw [E1.out]; rfl, hB⟩

end Go.Proofs.Ytnombgiacfeloaa
