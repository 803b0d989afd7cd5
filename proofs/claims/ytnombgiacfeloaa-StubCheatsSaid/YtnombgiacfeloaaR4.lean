/- The walks of the reference's Fits, judge and Judge. -/
import Derived.Test.YtnombgiacfeloaaM17
import Derived.Test.YtnombgiacfeloaaW4
import Derived.Deep.RegionWith
import Derived.BigRegion
namespace Go.Proofs.Ytnombgiacfeloaa
set_option linter.unusedVariables false
set_option linter.unusedSimpArgs false
open Go.RowKit

/-- So much foreign wax, and so much other wax, are a sort. -/
def fitsR (f foreign good : Int) : Bool := decide (foreign * 1000 ≤ f * (foreign + good))

set_option maxHeartbeats 400000 in
theorem refFits_any (a f x y : Int) (hf0 : 0 ≤ f) (hf : f ≤ 1000) (hx : 0 ≤ x ∧ x ≤ 100000000) (hy : 0 ≤ y ∧ y ≤ 100000000) (w : World) :
    Calls Try.prog 47 #[.agg #[.int .i64 a, .int .i64 f], .int .i64 x, .int .i64 y] w fun e w' => e = .returned (.bool (fitsR f x y)) ∧ Below w.heap.size w w' := by
  have hm := mul_bd f (x + y) hf0 hf 200000000 (by omega) (by omega)
  have h1' : wrap64 (f * (x + y)) = f * (x + y) := by
    generalize f * (x + y) = z at hm
    simp only [wrap64]; omega
  go_enter Try.func47, Try.ntmps47
  go_wp2_with fail
  go_ret
  refine ⟨ret_bool ?_, by (repeat (first | assumption | exact Below.refl _ _ | refine Below.alloc ?_ (by (try simp) <;> omega) _ | refine below_drewN ?_ _ | refine Below.drew ?_ | refine Below.setCell ?_ (by (try simp) <;> omega) _ | refine Below.trans ?_ (Below.mono (by assumption) (by (try simp) <;> omega))))⟩
  simp only [h1', fitsR]

def badR (a : Int) (b : Bag) : Int := if foreignB a b.kinds then b.hi else 0
def restR (a : Int) (b : Bag) : Int := if foreignB a b.kinds then 0 else b.lo
def forR (a : Int) (b : Bag) : Int := if ownB a b.kinds then 0 else b.lo
def goodR (a : Int) (b : Bag) : Int := if ownB a b.kinds then b.hi else 0

theorem part_bd {bs : List Bag} (h : Good bs) (a : Int) : (∀ b ∈ bs, 0 ≤ badR a b ∧ badR a b ≤ 1000000) ∧ (∀ b ∈ bs, 0 ≤ restR a b ∧ restR a b ≤ 1000000) ∧ (∀ b ∈ bs, 0 ≤ forR a b ∧ forR a b ≤ 1000000) ∧ (∀ b ∈ bs, 0 ≤ goodR a b ∧ goodR a b ≤ 1000000) := by
  refine ⟨fun b hb => ?_, fun b hb => ?_, fun b hb => ?_, fun b hb => ?_⟩ <;> have := h b hb <;> simp only [badR, restR, forR, goodR] <;> split <;> omega

/-- What 'judge' says, by its four sums. -/
def judgeR (a f : Int) (bs : List Bag) : Int :=
  if fitsR f (sumTo (badR a) bs bs.length) (sumTo (restR a) bs bs.length) then 1 else if fitsR f (sumTo (forR a) bs bs.length) (sumTo (goodR a) bs bs.length) then 2 else 0

set_option maxHeartbeats 2000000 in
theorem refjudge_any (a f : Int) (v : Value) (bs : List Bag) (w : World) (h : Rd w 3 v (bagRows bs)) (ha : 1 ≤ a ∧ a ≤ 255) (hf0 : 0 ≤ f) (hf : f ≤ 1000) (hlen : bs.length ≤ 10) (hg : Good bs) :
    Calls Try.prog 78 #[.agg #[.int .i64 a, .int .i64 f], v] w fun e w' => e = .returned (.int .i64 (judgeR a f bs)) ∧ Below w.heap.size w w' := by
  obtain ⟨sa, c, rfl, -, hm, hr⟩ := h.bags
  have H := Lib.hid hr
  obtain ⟨p1, p2, p3, p4⟩ := part_bd hg a
  have P1 := Lib.hid p1
  have P2 := Lib.hid p2
  have P3 := Lib.hid p3
  have P4 := Lib.hid p4
  have HG := Lib.hid hg
  clear hr h p1 p2 p3 p4 hg
  have ej : judgeR a f bs = if fitsR f (sumTo (badR a) bs bs.length) (sumTo (restR a) bs bs.length) then 1 else if fitsR f (sumTo (forR a) bs bs.length) (sumTo (goodR a) bs bs.length) then 2 else 0 := rfl
  have EJ := Lib.hid ej
  clear ej
  go_enter Try.func78, Try.ntmps78
  go_wp2_with fail
  go_loopw [5, 6, 7, 8, 9] (fun x y z u i wr => ∃ k : Nat, k ≤ bs.length ∧ i = .int .i64 k ∧ x = .int .i64 (sumTo (badR a) bs k) ∧ y = .int .i64 (sumTo (restR a) bs k) ∧ z = .int .i64 (sumTo (forR a) bs k) ∧ u = .int .i64 (sumTo (goodR a) bs k) ∧ Below w.heap.size w wr ∧
      wr.cell? ⟨w.heap.size, 0, none⟩ = some (.int .i64 a) ∧ wr.cell? ⟨w.heap.size, 1, none⟩ = some (.int .i64 f)) (fun _ _ _ _ i _ => bs.length - (intOf i).toNat)
  case atStart => exact ⟨0, Nat.zero_le _, rfl, by rw [sumTo_zero], by rw [sumTo_zero], by rw [sumTo_zero], by rw [sumTo_zero], below_alloc1 _ _, by simp [go_sem], by simp [go_sem]⟩
  case round =>
    obtain ⟨k, hk, rfl, rfl, rfl, rfl, rfl, hB, c0, c1⟩ := hrel
    have hzB := hB.size
    have b1 := sumTo_bd _ bs 1000000 P1.out k hk
    have b2 := sumTo_bd _ bs 1000000 P2.out k hk
    have b3 := sumTo_bd _ bs 1000000 P3.out k hk
    have b4 := sumTo_bd _ bs 1000000 P4.out k hk
    by_cases hlt : k < bs.length
    · have hlt' : (k : Int) < bs.length := by omega
      obtain ⟨b, off, rfl, hbl, hc⟩ := H.out (by omega)
      obtain ⟨g1, g2, g3⟩ := hc k hlt
      clear hc
      rw [← hB.cell (p := ⟨b, _, none⟩) hbl] at g1 g2 g3
      have s1 := sumTo_succ (badR a) bs k hlt
      have s2 := sumTo_succ (restR a) bs k hlt
      have s3 := sumTo_succ (forR a) bs k hlt
      have s4 := sumTo_succ (goodR a) bs k hlt
      have m1 := HG.out bs[k] (List.getElem_mem _)
      generalize bs[k] = x at g1 g2 g3 s1 s2 s3 s4 m1
      obtain ⟨lo, hi, kd⟩ := x
      simp only [badR, restR, forR, goodR] at s1 s2 s3 s4
      dsimp only at g1 g2 g3 m1
      generalize sumTo (badR a) bs k = X at *
      generalize sumTo (restR a) bs k = Y at *
      generalize sumTo (forR a) bs k = Z at *
      generalize sumTo (goodR a) bs k = U at *
      obtain ⟨A, rfl⟩ : ∃ A : Nat, a = A := ⟨a.toNat, by omega⟩
      obtain ⟨K, rfl⟩ : ∃ K : Nat, kd = K := ⟨kd.toNat, by omega⟩
      rw [← for_foreign A K (by omega) (by omega)] at s1 s2
      rw [← good_own A K (by omega) (by omega)] at s3 s4
      have S1 := Lib.hid s1
      have S2 := Lib.hid s2
      have S3 := Lib.hid s3
      have S4 := Lib.hid s4
      clear s1 s2 s3 s4
      go_wp2_with fail
      go_region_with (go_at_call 99; refine (some_any A K f lo hi (by omega) (by omega) _).mono ?_; rintro e w1 ⟨rfl, hb⟩)
      all_goals
        have hb' : Below wr.heap.size wr w1 := ⟨hb.os, hb.tape, hb.output, hb.size, hb.block⟩
        replace g1 := keep hb' g1
        replace g2 := keep hb' g2
        replace c0 := keep hb' c0
        replace c1 := keep hb' c1
        replace hB := hB.trans (hb'.mono hB.size)
        clear hb hb' g3
        cases hx : forTo A K 8 <;> cases hy : goodTo A K 8 <;> rw [hx] at S1 S2 <;> rw [hy] at S3 S4
        all_goals go_wp2_with fail
        all_goals go_roundw
        all_goals first
          | exact ⟨k + 1, by omega, by go_num, by rw [S1.out]; simp, by rw [S2.out]; simp, by rw [S3.out]; simp, by rw [S4.out]; simp, hB, c0, c1⟩
          | (simp [intOf]; omega)
    · obtain rfl : k = bs.length := by omega
      generalize sumTo (badR a) bs bs.length = X at *
      generalize sumTo (restR a) bs bs.length = Y at *
      generalize sumTo (forR a) bs bs.length = Z at *
      generalize sumTo (goodR a) bs bs.length = U at *
      go_wp2_with fail
      refine (refFits_any a f X Y hf0 hf (by omega) (by omega) _).mono ?_
      rintro e w1 ⟨rfl, hb⟩
      have hk : Below wr.heap.size wr w1 := by (repeat (first | assumption | exact Below.refl _ _ | refine Below.alloc ?_ (by (try simp) <;> omega) _ | refine below_drewN ?_ _ | refine Below.drew ?_ | refine Below.setCell ?_ (by (try simp) <;> omega) _ | refine Below.trans ?_ (Below.mono (by assumption) (by (try simp) <;> omega))))
      replace hB := hB.trans (hk.mono hB.size)
      have hzw1 := hB.size
      replace c0 := keep hk c0
      replace c1 := keep hk c1
      have lc0 := lt_of_cell c0
      clear hk hb
      cases h1 : fitsR f X Y
      · go_wp2_with fail
        refine (refFits_any a f Z U hf0 hf (by omega) (by omega) _).mono ?_
        rintro e w2 ⟨rfl, hb⟩
        have hk : Below w1.heap.size w1 w2 := by (repeat (first | assumption | exact Below.refl _ _ | refine Below.alloc ?_ (by (try simp) <;> omega) _ | refine below_drewN ?_ _ | refine Below.drew ?_ | refine Below.setCell ?_ (by (try simp) <;> omega) _ | refine Below.trans ?_ (Below.mono (by assumption) (by (try simp) <;> omega))))
        replace hB := hB.trans (hk.mono hB.size)
        have hzw2 := hB.size
        replace c0 := keep hk c0
        replace c1 := keep hk c1
        have lc0 := lt_of_cell c0
        clear hk hb
        cases h2 : fitsR f Z U
        · go_wp2_with fail
          go_ret
          exact ⟨by rw [EJ.out, h1, h2]; rfl, hB⟩
        · go_wp2_with fail
          go_ret
          exact ⟨by rw [EJ.out, h1, h2]; rfl, hB⟩
      · go_wp2_with fail
        go_ret
        exact ⟨by rw [EJ.out, h1]; rfl, hB⟩

end Go.Proofs.Ytnombgiacfeloaa
