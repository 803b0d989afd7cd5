/- The statement 'StubPerhaps', walked: bags that perhaps make a sort do so in the best truth and not in the worst one. -/
import Derived.Test.YtnombgiacfeloaaW20
import Derived.Test.YtnombgiacfeloaaW19
namespace Go.Proofs.Ytnombgiacfeloaa
set_option linter.unusedVariables false
set_option linter.unusedSimpArgs false
open Go.RowKit

theorem fits_mono {f x y z u : Int} (hf : f ≤ 1000) (hf0 : 0 ≤ f) (hxz : z ≤ x) (hyu : y ≤ u) (h : fitsR f x y = true) : fitsR f z u = true := by
  simp only [fitsR, decide_eq_true_eq] at *
  have e1 : f * (x + y) = f * x + f * y := Int.mul_add _ _ _
  have e2 : f * (z + u) = f * z + f * u := Int.mul_add _ _ _
  have h1 : f * y ≤ f * u := Int.mul_le_mul_of_nonneg_left hyu hf0
  have h2 : (1000 - f) * z ≤ (1000 - f) * x := Int.mul_le_mul_of_nonneg_left hxz (by omega)
  rw [Int.sub_mul, Int.sub_mul] at h2
  omega

theorem sumTo_le {α : Type} (f g : α → Int) (l : List α) (e : ∀ x ∈ l, f x ≤ g x) (k : Nat) (hk : k ≤ l.length) : sumTo f l k ≤ sumTo g l k := by
  induction k with
  | zero => simp [sumTo_zero]
  | succ k ih =>
    rw [sumTo_succ f l k (by omega), sumTo_succ g l k (by omega)]
    have := ih (by omega)
    have := e _ (List.getElem_mem (by omega : k < l.length))
    omega

/-- Each bag can be of an accepted kind, or of another one. -/
theorem own_or_foreign {a k : Int} (ha : 1 ≤ a ∧ a ≤ 255) (hk : 1 ≤ k ∧ k ≤ 255) : ownB a k = true ∨ foreignB a k = true := by
  obtain ⟨A, rfl⟩ : ∃ A : Nat, a = A := ⟨a.toNat, by omega⟩
  obtain ⟨K, rfl⟩ : ∃ K : Nat, k = K := ⟨k.toNat, by omega⟩
  rw [← good_own A K (by omega) (by omega), ← for_foreign A K (by omega) (by omega)]
  have : ∀ K : Fin 256, 1 ≤ K.1 → ∃ n, n < 8 ∧ hasK K n = true := by decide +kernel
  obtain ⟨n, hn, hb⟩ := this ⟨K, by omega⟩ (by dsimp only; omega)
  dsimp only at hb
  have up : ∀ m, n < m → goodTo A K m = true ∨ forTo A K m = true := by
    intro m hm
    induction m with
    | zero => omega
    | succ m ih =>
      rw [goodTo, forTo]
      by_cases e : n = m
      · subst e
        rw [hb]
        cases hasK A n <;> simp
      · rcases ih (by omega) with h | h <;> simp [h]
  exact up 8 hn

theorem worst_best {a : Int} {bs : List Bag} (ha : 1 ≤ a ∧ a ≤ 255) (hg : Good bs) : (∀ b ∈ bs, forR a b ≤ badR a b) ∧ ∀ b ∈ bs, restR a b ≤ goodR a b := by
  refine ⟨fun b hb => ?_, fun b hb => ?_⟩ <;> have m := hg b hb <;> simp only [forR, badR, restR, goodR] <;>
    rcases own_or_foreign ha (by omega : 1 ≤ b.kinds ∧ b.kinds ≤ 255) with e | e <;> rw [e] <;> (try cases ownB a b.kinds) <;> (try cases foreignB a b.kinds) <;> simp <;> omega

/-- The verdict tells whether the best and the worst truth fit. -/
theorem verdict_ends {a f : Int} {bs : List Bag} (ha : 1 ≤ a ∧ a ≤ 255) (hf0 : 0 ≤ f) (hf : f ≤ 1000) (hg : Good bs) :
    (fitsR f (sumTo (forR a) bs bs.length) (sumTo (goodR a) bs bs.length) = decide (judgeR a f bs ≠ 0)) ∧ fitsR f (sumTo (badR a) bs bs.length) (sumTo (restR a) bs bs.length) = decide (judgeR a f bs = 1) := by
  obtain ⟨w1, w2⟩ := worst_best ha hg
  unfold judgeR
  cases h1 : fitsR f (sumTo (badR a) bs bs.length) (sumTo (restR a) bs bs.length)
  · cases h2 : fitsR f (sumTo (forR a) bs bs.length) (sumTo (goodR a) bs bs.length) <;> simp
  · rw [fits_mono hf hf0 (sumTo_le _ _ bs w1 _ (Nat.le_refl _)) (sumTo_le _ _ bs w2 _ (Nat.le_refl _)) h1]
    simp

theorem verdict_range (a f : Int) (bs : List Bag) : judgeR a f bs = 0 ∨ judgeR a f bs = 1 ∨ judgeR a f bs = 2 := by
  unfold judgeR
  split
  · exact .inr (.inl rfl)
  · split
    · exact .inr (.inr rfl)
    · exact .inl rfl

theorem fits_at (a f x y : Int) (b : Bool) (hb : fitsR f x y = b) (hf0 : 0 ≤ f) (hf : f ≤ 1000) (hx : 0 ≤ x ∧ x ≤ 100000000) (hy : 0 ≤ y ∧ y ≤ 100000000) (w : World) :
    Calls Try.prog 47 #[.agg #[.int .i64 a, .int .i64 f], .int .i64 x, .int .i64 y] w fun e w' => e = .returned (.bool b) ∧ Below w.heap.size w w' := by
  subst hb
  exact refFits_any a f x y hf0 hf hx hy w

set_option maxRecDepth 100000 in
set_option maxHeartbeats 2000000 in
theorem perhaps_any (a f : Int) (v : Value) (bs : List Bag) (w : World) (h : Rd w 3 v (bagRows bs)) :
    Calls Try.prog 13 #[.agg #[.int .i64 a, .int .i64 f], v] w fun e w' => e = .returned (.bool true) ∧ Below w.heap.size w w' := by
  have hB := Below.refl w.heap.size w
  have HR := Lib.hid (h.below (below_alloc1 w (.cells #[.int .i64 a, .int .i64 f] 46)))
  clear h
  by_cases he : beginErr a f bs = 0
  · obtain ⟨ha, ⟨hf0, hf⟩, hlen, hg, -⟩ := beginErr_ok he
    obtain ⟨v1, v2⟩ := verdict_ends ha hf0 hf hg
    obtain ⟨b1, b2⟩ := end_bd hg a true
    obtain ⟨b3, b4⟩ := end_bd hg a false
    have k1 := sumTo_bd _ bs 1000000 b1 bs.length (Nat.le_refl _)
    have k2 := sumTo_bd _ bs 1000000 b2 bs.length (Nat.le_refl _)
    have k3 := sumTo_bd _ bs 1000000 b3 bs.length (Nat.le_refl _)
    have k4 := sumTo_bd _ bs 1000000 b4 bs.length (Nat.le_refl _)
    have HE := Lib.hid he
    have HG := Lib.hid hg
    have hv := judgeR_eq a f bs
    have vr := verdict_range a f bs
    have j1 := judge_ok a f v bs _ HR.out he
    have j2 := fun w' (h : Rd w' 3 v (bagRows bs)) => end_any true a f v bs w' h ha hlen hg
    have j3 := fun w' (h : Rd w' 3 v (bagRows bs)) => end_any false a f v bs w' h ha hlen hg
    have e1 : sumTo (endF true a) bs bs.length = sumTo (forR a) bs bs.length := rfl
    have e2 : sumTo (endG true a) bs bs.length = sumTo (goodR a) bs bs.length := rfl
    have e3 : sumTo (endF false a) bs bs.length = sumTo (badR a) bs bs.length := rfl
    have e4 : sumTo (endG false a) bs bs.length = sumTo (restR a) bs bs.length := rfl
    rw [← e1, ← e2] at v1
    rw [← e3, ← e4] at v2
    clear e1 e2 e3 e4 b1 b2 b3 b4
    rw [← hv] at j1
    generalize sumTo (endF true a) bs bs.length = x1 at *
    generalize sumTo (endG true a) bs bs.length = x2 at *
    generalize sumTo (endF false a) bs bs.length = x3 at *
    generalize sumTo (endG false a) bs bs.length = x4 at *
    generalize judgeR a f bs = V at *
    have J1 := Lib.hid j1
    have J2 := Lib.hid j2
    have J3 := Lib.hid j3
    have V1 := Lib.hid v1
    have V2 := Lib.hid v2
    clear j1 j2 j3 hv v1 v2 he hg
    rcases vr with rfl | rfl | rfl
    all_goals
      go_enter Try.func13, Try.ntmps13
      go_wp2_with fail
      refine J1.out.mono ?_
      rintro e w1 ⟨rfl, hb⟩
      have c0 : w1.cell? ⟨w.heap.size, 0, none⟩ = some (.int .i64 a) := keep hb (by simp [go_sem])
      have c1 : w1.cell? ⟨w.heap.size, 1, none⟩ = some (.int .i64 f) := keep hb (by simp [go_sem])
      have HR1 := Lib.hid (HR.out.below hb)
      clear J1
      have hk : Below w.heap.size w w1 := by (repeat (first | assumption | exact Below.refl _ _ | refine Below.alloc ?_ (by (try simp) <;> omega) _ | refine below_drewN ?_ _ | refine Below.drew ?_ | refine Below.setCell ?_ (by (try simp) <;> omega) _ | refine Below.trans ?_ (Below.mono (by assumption) (by (try simp) <;> omega))))
      replace hB := hB.trans (hk.mono hB.size)
      have hzw1 := hB.size
      clear hk hb
      go_wp2_with fail
      refine (refBags_any a f v bs _ HR1.out).mono ?_
      rw [HE.out]
      rintro e w2 ⟨rfl, hb⟩
      have HR2 := Lib.hid (HR1.out.below hb)
      have hk : Below w1.heap.size w1 w2 := by (repeat (first | assumption | exact Below.refl _ _ | refine Below.alloc ?_ (by (try simp) <;> omega) _ | refine below_drewN ?_ _ | refine Below.drew ?_ | refine Below.setCell ?_ (by (try simp) <;> omega) _ | refine Below.trans ?_ (Below.mono (by assumption) (by (try simp) <;> omega))))
      replace hB := hB.trans (hk.mono hB.size)
      have hzw2 := hB.size
      replace c0 := keep hk c0
      replace c1 := keep hk c1
      have lc0 := lt_of_cell c0
      clear hk hb
      go_wp2_with fail
      refine (J2.out _ HR2.out).mono ?_
      rintro e w3 ⟨rfl, hb⟩
      have HR3 := Lib.hid (HR2.out.below hb)
      have hk : Below w2.heap.size w2 w3 := by (repeat (first | assumption | exact Below.refl _ _ | refine Below.alloc ?_ (by (try simp) <;> omega) _ | refine below_drewN ?_ _ | refine Below.drew ?_ | refine Below.setCell ?_ (by (try simp) <;> omega) _ | refine Below.trans ?_ (Below.mono (by assumption) (by (try simp) <;> omega))))
      replace hB := hB.trans (hk.mono hB.size)
      have hzw3 := hB.size
      replace c0 := keep hk c0
      replace c1 := keep hk c1
      have lc0 := lt_of_cell c0
      clear hk hb
      go_wp2_with fail
      refine (J3.out _ HR3.out).mono ?_
      rintro e w4 ⟨rfl, hb⟩
      have hk : Below w3.heap.size w3 w4 := by (repeat (first | assumption | exact Below.refl _ _ | refine Below.alloc ?_ (by (try simp) <;> omega) _ | refine below_drewN ?_ _ | refine Below.drew ?_ | refine Below.setCell ?_ (by (try simp) <;> omega) _ | refine Below.trans ?_ (Below.mono (by assumption) (by (try simp) <;> omega))))
      replace hB := hB.trans (hk.mono hB.size)
      have hzw4 := hB.size
      replace c0 := keep hk c0
      replace c1 := keep hk c1
      have lc0 := lt_of_cell c0
      clear hk hb
      go_wp2_with fail
      refine (fits_at a f x1 x2 _ V1.out hf0 hf (by omega) (by omega) _).mono ?_
      rintro e w5 ⟨rfl, hb⟩
      have hk : Below w4.heap.size w4 w5 := by (repeat (first | assumption | exact Below.refl _ _ | refine Below.alloc ?_ (by (try simp) <;> omega) _ | refine below_drewN ?_ _ | refine Below.drew ?_ | refine Below.setCell ?_ (by (try simp) <;> omega) _ | refine Below.trans ?_ (Below.mono (by assumption) (by (try simp) <;> omega))))
      replace hB := hB.trans (hk.mono hB.size)
      have hzw5 := hB.size
      replace c0 := keep hk c0
      replace c1 := keep hk c1
      have lc0 := lt_of_cell c0
      clear hk hb
      go_wp2_with fail
      refine (fits_at a f x3 x4 _ V2.out hf0 hf (by omega) (by omega) _).mono ?_
      rintro e w6 ⟨rfl, hb⟩
      have hk : Below w5.heap.size w5 w6 := by (repeat (first | assumption | exact Below.refl _ _ | refine Below.alloc ?_ (by (try simp) <;> omega) _ | refine below_drewN ?_ _ | refine Below.drew ?_ | refine Below.setCell ?_ (by (try simp) <;> omega) _ | refine Below.trans ?_ (Below.mono (by assumption) (by (try simp) <;> omega))))
      replace hB := hB.trans (hk.mono hB.size)
      have hzw6 := hB.size
      replace c0 := keep hk c0
      replace c1 := keep hk c1
      have lc0 := lt_of_cell c0
      clear hk hb
      go_wp2_with fail
      refine (awake_any _).mono ?_
      rintro e w7 ⟨rfl, hb⟩
      have hk : Below w6.heap.size w6 w7 := by (repeat (first | assumption | exact Below.refl _ _ | refine Below.alloc ?_ (by (try simp) <;> omega) _ | refine below_drewN ?_ _ | refine Below.drew ?_ | refine Below.setCell ?_ (by (try simp) <;> omega) _ | refine Below.trans ?_ (Below.mono (by assumption) (by (try simp) <;> omega))))
      replace hB := hB.trans (hk.mono hB.size)
      have hzw7 := hB.size
      replace c0 := keep hk c0
      replace c1 := keep hk c1
      have lc0 := lt_of_cell c0
      clear hk hb
      go_wp2_with fail
      go_ret
      exact ⟨rfl, hB⟩
  · have j1 := judge_no a f v bs _ HR.out he
    have j2 := fun w' (h : Rd w' 3 v (bagRows bs)) => refBags_any a f v bs w' h
    generalize beginErr a f bs = E at *
    have t1 : (E != 0) = true := by rw [bne_iff_ne]; exact he
    have J1 := Lib.hid j1
    have J2 := Lib.hid j2
    clear j1 j2 he
    go_enter Try.func13, Try.ntmps13
    go_wp2_with fail
    refine J1.out.mono ?_
    rintro e w1 ⟨rfl, hb⟩
    have c0 : w1.cell? ⟨w.heap.size, 0, none⟩ = some (.int .i64 a) := keep hb (by simp [go_sem])
    have c1 : w1.cell? ⟨w.heap.size, 1, none⟩ = some (.int .i64 f) := keep hb (by simp [go_sem])
    have HR1 := Lib.hid (HR.out.below hb)
    clear J1
    have hk : Below w.heap.size w w1 := by (repeat (first | assumption | exact Below.refl _ _ | refine Below.alloc ?_ (by (try simp) <;> omega) _ | refine below_drewN ?_ _ | refine Below.drew ?_ | refine Below.setCell ?_ (by (try simp) <;> omega) _ | refine Below.trans ?_ (Below.mono (by assumption) (by (try simp) <;> omega))))
    replace hB := hB.trans (hk.mono hB.size)
    have hzw1 := hB.size
    clear hk hb
    go_wp2_with fail
    refine (J2.out _ HR1.out).mono ?_
    rintro e w2 ⟨rfl, hb⟩
    have hk : Below w1.heap.size w1 w2 := by (repeat (first | assumption | exact Below.refl _ _ | refine Below.alloc ?_ (by (try simp) <;> omega) _ | refine below_drewN ?_ _ | refine Below.drew ?_ | refine Below.setCell ?_ (by (try simp) <;> omega) _ | refine Below.trans ?_ (Below.mono (by assumption) (by (try simp) <;> omega))))
    replace hB := hB.trans (hk.mono hB.size)
    have hzw2 := hB.size
    replace c0 := keep hk c0
    replace c1 := keep hk c1
    have lc0 := lt_of_cell c0
    clear hk hb
    go_wp2_with fail
    refine (awake_any _).mono ?_
    rintro e w3 ⟨rfl, hb⟩
    have hk : Below w2.heap.size w2 w3 := by (repeat (first | assumption | exact Below.refl _ _ | refine Below.alloc ?_ (by (try simp) <;> omega) _ | refine below_drewN ?_ _ | refine Below.drew ?_ | refine Below.setCell ?_ (by (try simp) <;> omega) _ | refine Below.trans ?_ (Below.mono (by assumption) (by (try simp) <;> omega))))
    replace hB := hB.trans (hk.mono hB.size)
    have hzw3 := hB.size
    replace c0 := keep hk c0
    replace c1 := keep hk c1
    have lc0 := lt_of_cell c0
    clear hk hb
    go_wp2_with fail
    go_ret
    exact ⟨rfl, hB⟩

end Go.Proofs.Ytnombgiacfeloaa
