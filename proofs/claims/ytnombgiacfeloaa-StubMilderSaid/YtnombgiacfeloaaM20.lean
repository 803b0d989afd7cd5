/- Plain facts: bags and sorts that are milder, and what Judge says of them. No walk is in sight. -/
import Derived.Test.YtnombgiacfeloaaL5
namespace Go.Proofs.Ytnombgiacfeloaa
set_option linter.unusedVariables false
set_option linter.unusedSimpArgs false
open Go.RowKit

def sumAll (g : Bag → Int) (l : List Bag) : Int := sumTo g l l.length
theorem sumAll_eq (g : Bag → Int) (l : List Bag) : sumAll g l = (l.map g).sum := by simp [sumAll, sumTo]

theorem fitsR_more {f f' x y : Int} (h : fitsR f x y = true) (hf : f ≤ f') (hx : 0 ≤ x) (hy : 0 ≤ y) : fitsR f' x y = true := by
  simp only [fitsR, decide_eq_true_eq] at *
  have : f * (x + y) ≤ f' * (x + y) := Int.mul_le_mul_of_nonneg_right hf (by omega)
  omega

theorem judgeR_cases (a f : Int) (bs : List Bag) : judgeR a f bs = if fitsR f (sumAll (badR a) bs) (sumAll (restR a) bs) then 1 else if fitsR f (sumAll (forR a) bs) (sumAll (goodR a) bs) then 2 else 0 := rfl

/-- Less foreign wax, more other wax, a greater share allowed: what was sure stays sure, what was possible stays possible. -/
theorem judge_milder {a f a' f' : Int} {bs bs' : List Bag} (hf0 : 0 ≤ f') (hf : f ≤ f') (hf1 : f' ≤ 1000)
    (n1 : 0 ≤ sumAll (badR a) bs ∧ 0 ≤ sumAll (restR a) bs) (n2 : 0 ≤ sumAll (forR a) bs ∧ 0 ≤ sumAll (goodR a) bs)
    (h1 : sumAll (badR a') bs' ≤ sumAll (badR a) bs) (h2 : sumAll (restR a) bs ≤ sumAll (restR a') bs') (h3 : sumAll (forR a') bs' ≤ sumAll (forR a) bs) (h4 : sumAll (goodR a) bs ≤ sumAll (goodR a') bs') :
    (judgeR a f bs = 1 → judgeR a' f' bs' = 1) ∧ (judgeR a f bs = 2 → judgeR a' f' bs' ≠ 0) := by
  rw [judgeR_cases, judgeR_cases]
  constructor
  · intro h
    split at h
    · rename_i h0
      rw [if_pos (fits_mono hf1 hf0 h1 h2 (fitsR_more h0 hf n1.1 n1.2))]
    · split at h <;> simp at h
  · intro h
    split at h
    · simp at h
    · split at h
      · rename_i h0
        have := fits_mono hf1 hf0 h3 h4 (fitsR_more h0 hf n2.1 n2.2)
        rw [if_pos this]
        split <;> simp
      · simp at h

/-- Fewer kinds: what was sure or never stays so. -/
theorem judge_fewer {a f : Int} {bs bs' : List Bag} (hf0 : 0 ≤ f) (hf1 : f ≤ 1000)
    (w : sumAll (forR a) bs' ≤ sumAll (badR a) bs' ∧ sumAll (restR a) bs' ≤ sumAll (goodR a) bs')
    (h1 : sumAll (badR a) bs' ≤ sumAll (badR a) bs) (h2 : sumAll (restR a) bs ≤ sumAll (restR a) bs') (h3 : sumAll (forR a) bs ≤ sumAll (forR a) bs') (h4 : sumAll (goodR a) bs' ≤ sumAll (goodR a) bs) :
    judgeR a f bs = 2 ∨ judgeR a f bs' = judgeR a f bs := by
  rw [judgeR_cases, judgeR_cases]
  by_cases e1 : fitsR f (sumAll (badR a) bs) (sumAll (restR a) bs) = true
  · right
    rw [if_pos e1, if_pos (fits_mono hf1 hf0 h1 h2 e1)]
  · rw [if_neg e1]
    by_cases e2 : fitsR f (sumAll (forR a) bs) (sumAll (goodR a) bs) = true
    · left; rw [if_pos e2]
    · right
      have e3 : ¬ fitsR f (sumAll (forR a) bs') (sumAll (goodR a) bs') = true := fun h => e2 (fits_mono hf1 hf0 h3 h4 h)
      have e4 : ¬ fitsR f (sumAll (badR a) bs') (sumAll (restR a) bs') = true := fun h => e3 (fits_mono hf1 hf0 w.1 w.2 h)
      rw [if_neg e2, if_neg e3, if_neg e4]

/-! ### Kinds -/

def SubK (K K' : Nat) : Prop := ∀ j, j < 8 → hasK K j = true → hasK K' j = true

theorem good_sub1 {A A' K K' : Nat} (hA : SubK A A') (hK : SubK K K') : ∀ n, n ≤ 8 → goodTo A K n = true → goodTo A' K' n = true
  | 0, _, h => by simp [goodTo] at h
  | n + 1, hn, h => by
    rw [goodTo, Bool.or_eq_true, Bool.and_eq_true] at *
    rcases h with h | ⟨h1, h2⟩
    · exact .inl (good_sub1 hA hK n (by omega) h)
    · exact .inr ⟨hK n (by omega) h1, hA n (by omega) h2⟩
theorem for_sub1 {A A' K K' : Nat} (hA : SubK A' A) (hK : SubK K K') : ∀ n, n ≤ 8 → forTo A K n = true → forTo A' K' n = true
  | 0, _, h => by simp [forTo] at h
  | n + 1, hn, h => by
    rw [forTo, Bool.or_eq_true, Bool.and_eq_true] at *
    rcases h with h | ⟨h1, h2⟩
    · exact .inl (for_sub1 hA hK n (by omega) h)
    · refine .inr ⟨hK n (by omega) h1, ?_⟩
      cases e : hasK A' n
      · rfl
      · rw [hA n (by omega) e] at h2; simp at h2

theorem own_of (A K : Nat) (hA : A ≤ 255) (hK : K ≤ 255) : ownB (A : Int) (K : Int) = goodTo A K 8 := (good_own A K hA hK).symm
theorem foreign_of (A K : Nat) (hA : A ≤ 255) (hK : K ≤ 255) : foreignB (A : Int) (K : Int) = forTo A K 8 := (for_foreign A K hA hK).symm

/-- A bag with kinds that a sort accepts more easily. -/
theorem bag_milder {A A' K : Nat} {lo hi : Int} (hA : A ≤ 255) (hA' : A' ≤ 255) (hK : K ≤ 255) (hs : SubK A A') (h0 : 0 ≤ lo) (h1 : lo ≤ hi) :
    badR A' ⟨lo, hi, K⟩ ≤ badR A ⟨lo, hi, K⟩ ∧ restR A ⟨lo, hi, K⟩ ≤ restR A' ⟨lo, hi, K⟩ ∧ forR A' ⟨lo, hi, K⟩ ≤ forR A ⟨lo, hi, K⟩ ∧ goodR A ⟨lo, hi, K⟩ ≤ goodR A' ⟨lo, hi, K⟩ := by
  have g := good_sub1 hs (fun _ _ h => h : SubK K K) 8 (Nat.le_refl _)
  have f := for_sub1 hs (fun _ _ h => h : SubK K K) 8 (Nat.le_refl _)
  simp only [badR, restR, forR, goodR, own_of _ _ hA hK, own_of _ _ hA' hK, foreign_of _ _ hA hK, foreign_of _ _ hA' hK]
  cases h1' : goodTo A K 8 <;> cases h2' : goodTo A' K 8 <;> cases h3' : forTo A K 8 <;> cases h4' : forTo A' K 8 <;> simp_all <;> omega
theorem bag_fewer {A K K' : Nat} {lo hi : Int} (hA : A ≤ 255) (hK : K ≤ 255) (hK' : K' ≤ 255) (hs : SubK K' K) (h0 : 0 ≤ lo) (h1 : lo ≤ hi) :
    badR A ⟨lo, hi, K'⟩ ≤ badR A ⟨lo, hi, K⟩ ∧ restR A ⟨lo, hi, K⟩ ≤ restR A ⟨lo, hi, K'⟩ ∧ forR A ⟨lo, hi, K⟩ ≤ forR A ⟨lo, hi, K'⟩ ∧ goodR A ⟨lo, hi, K'⟩ ≤ goodR A ⟨lo, hi, K⟩ := by
  have g := good_sub1 (fun _ _ h => h : SubK A A) hs 8 (Nat.le_refl _)
  have f := for_sub1 (fun _ _ h => h : SubK A A) hs 8 (Nat.le_refl _)
  simp only [badR, restR, forR, goodR, own_of _ _ hA hK, own_of _ _ hA hK', foreign_of _ _ hA hK, foreign_of _ _ hA hK']
  cases h1' : goodTo A K 8 <;> cases h2' : goodTo A K' 8 <;> cases h3' : forTo A K 8 <;> cases h4' : forTo A K' 8 <;> simp_all <;> omega
/-- A bag whose kinds are all accepted. -/
theorem bag_own {A : Nat} {x : Int} (hA : 1 ≤ A ∧ A ≤ 255) : badR A ⟨x, x, A⟩ = 0 ∧ restR A ⟨x, x, A⟩ = x ∧ forR A ⟨x, x, A⟩ = 0 ∧ goodR A ⟨x, x, A⟩ = x := by
  have t : ∀ A : Fin 256, 1 ≤ A.1 → goodTo A.1 A.1 8 = true ∧ forTo A.1 A.1 8 = false := by decide +kernel
  obtain ⟨t1, t2⟩ := t ⟨A, by omega⟩ hA.1
  dsimp only at t1 t2
  simp only [badR, restR, forR, goodR, own_of _ _ hA.2 hA.2, foreign_of _ _ hA.2 hA.2, t1, t2]
  simp

theorem add_kind {A k : Nat} (hA : 1 ≤ A ∧ A ≤ 255) (hk : k < 8) (h : hasK A k = false) : A + 2 ^ k ≤ 255 ∧ SubK A (A + 2 ^ k) := by
  have t : ∀ A : Fin 256, ∀ k : Fin 8, hasK A.1 k.1 = false → A.1 + 2 ^ k.1 ≤ 255 ∧ ∀ j : Fin 8, hasK A.1 j.1 = true → hasK (A.1 + 2 ^ k.1) j.1 = true := by decide +kernel
  obtain ⟨t1, t2⟩ := t ⟨A, by omega⟩ ⟨k, hk⟩ h
  exact ⟨t1, fun j hj => t2 ⟨j, hj⟩⟩
theorem less_kind {K k : Nat} (hK : 1 ≤ K ∧ K ≤ 255) (hk : k < 8) (h : hasK K k = true) (hne : K ≠ 2 ^ k) : 2 ^ k < K ∧ SubK (K - 2 ^ k) K := by
  have t : ∀ K : Fin 256, ∀ k : Fin 8, hasK K.1 k.1 = true → K.1 ≠ 2 ^ k.1 → 2 ^ k.1 < K.1 ∧ ∀ j : Fin 8, hasK (K.1 - 2 ^ k.1) j.1 = true → hasK K.1 j.1 = true := by decide +kernel
  obtain ⟨t1, t2⟩ := t ⟨K, by omega⟩ ⟨k, hk⟩ h hne
  exact ⟨t1, fun j hj => t2 ⟨j, hj⟩⟩

/-! ### The three milder judgements -/

theorem sumAll_le {g h : Bag → Int} {l : List Bag} (e : ∀ x ∈ l, g x ≤ h x) : sumAll g l ≤ sumAll h l := sumTo_le g h l e _ (Nat.le_refl _)
theorem sumAll_nonneg {g : Bag → Int} {l : List Bag} (e : ∀ x ∈ l, 0 ≤ g x ∧ g x ≤ 1000000) : 0 ≤ sumAll g l := (sumTo_bd g l 1000000 e _ (Nat.le_refl _)).1
theorem sumAll_snoc (g : Bag → Int) (l : List Bag) (x : Bag) : sumAll g (l ++ [x]) = sumAll g l + g x := by simp [sumAll_eq]
theorem sumAll_set (g : Bag → Int) (l : List Bag) (k : Nat) (hk : k < l.length) (y : Bag) : sumAll g (l.set k y) = sumAll g l - g l[k] + g y := by
  rw [sumAll_eq, sumAll_eq]
  induction l generalizing k with
  | nil => simp at hk
  | cons x l ih =>
    cases k with
    | zero => simp; omega
    | succ k =>
      have := ih k (by simpa using hk)
      simp only [List.set_cons_succ, List.map_cons, List.sum_cons, List.getElem_cons_succ, this]
      omega

theorem milder_sort {A A' : Nat} {f f' : Int} {bs : List Bag} (hA : A ≤ 255) (hA' : A' ≤ 255) (hs : SubK A A') (hf0 : 0 ≤ f) (hf : f ≤ f') (hf1 : f' ≤ 1000) (hg : Good bs) :
    (judgeR A f bs = 1 → judgeR A' f' bs = 1) ∧ (judgeR A f bs = 2 → judgeR A' f' bs ≠ 0) := by
  obtain ⟨p1, p2, p3, p4⟩ := part_bd hg A
  have key : ∀ b ∈ bs, badR A' b ≤ badR A b ∧ restR A b ≤ restR A' b ∧ forR A' b ≤ forR A b ∧ goodR A b ≤ goodR A' b := by
    intro b hb
    have m := hg b hb
    obtain ⟨lo, hi, kd⟩ := b
    dsimp only at m
    obtain ⟨K, rfl⟩ : ∃ K : Nat, kd = K := ⟨kd.toNat, by omega⟩
    exact bag_milder hA hA' (by omega) hs (by omega) (by omega)
  exact judge_milder (by omega) hf hf1 ⟨sumAll_nonneg p1, sumAll_nonneg p2⟩ ⟨sumAll_nonneg p3, sumAll_nonneg p4⟩ (sumAll_le fun b hb => (key b hb).1) (sumAll_le fun b hb => (key b hb).2.1) (sumAll_le fun b hb => (key b hb).2.2.1) (sumAll_le fun b hb => (key b hb).2.2.2)

theorem milder_bag {A : Nat} {f x : Int} {bs : List Bag} (hA : 1 ≤ A ∧ A ≤ 255) (hf0 : 0 ≤ f) (hf1 : f ≤ 1000) (hg : Good bs) (hx : 0 ≤ x) :
    (judgeR A f bs = 1 → judgeR A f (bs ++ [⟨x, x, A⟩]) = 1) ∧ (judgeR A f bs = 2 → judgeR A f (bs ++ [⟨x, x, A⟩]) ≠ 0) := by
  obtain ⟨p1, p2, p3, p4⟩ := part_bd hg A
  obtain ⟨e1, e2, e3, e4⟩ := bag_own (x := x) hA
  exact judge_milder hf0 (Int.le_refl _) hf1 ⟨sumAll_nonneg p1, sumAll_nonneg p2⟩ ⟨sumAll_nonneg p3, sumAll_nonneg p4⟩ (by rw [sumAll_snoc, e1]; omega) (by rw [sumAll_snoc, e2]; omega) (by rw [sumAll_snoc, e3]; omega) (by rw [sumAll_snoc, e4]; omega)

theorem fewer_kinds {A k : Nat} {f : Int} {bs : List Bag} (hA : 1 ≤ A ∧ A ≤ 255) (hf0 : 0 ≤ f) (hf1 : f ≤ 1000) (hg : Good bs) {i : Nat} (hi : i < bs.length) {K : Nat} (hK : bs[i].kinds = K) (hk : k < 8) (h : hasK K k = true) (hne : K ≠ 2 ^ k) :
    Good (bs.set i ⟨bs[i].lo, bs[i].hi, ((K - 2 ^ k : Nat) : Int)⟩) ∧ (judgeR A f bs = 2 ∨ judgeR A f (bs.set i ⟨bs[i].lo, bs[i].hi, ((K - 2 ^ k : Nat) : Int)⟩) = judgeR A f bs) := by
  have m := hg bs[i] (List.getElem_mem hi)
  have hKb : 1 ≤ K ∧ K ≤ 255 := by omega
  obtain ⟨hlt, hsub⟩ := less_kind hKb hk h hne
  have hK2 : 1 ≤ K - 2 ^ k ∧ K - 2 ^ k ≤ 255 := ⟨Nat.sub_pos_of_lt hlt, Nat.le_trans (Nat.sub_le _ _) hKb.2⟩
  have hgood : Good (bs.set i ⟨bs[i].lo, bs[i].hi, ((K - 2 ^ k : Nat) : Int)⟩) := by
    intro b hb
    rcases List.mem_or_eq_of_mem_set hb with hb | rfl
    · exact hg b hb
    · dsimp only
      generalize K - 2 ^ k = K' at hK2
      omega
  refine ⟨hgood, ?_⟩
  obtain ⟨w1, w2⟩ := worst_best (by omega : 1 ≤ (A : Int) ∧ (A : Int) ≤ 255) hgood
  have bf := bag_fewer (A := A) (K := K) (K' := K - 2 ^ k) (lo := bs[i].lo) (hi := bs[i].hi) hA.2 hKb.2 hK2.2 hsub m.1 m.2.1
  have eb : bs[i] = ⟨bs[i].lo, bs[i].hi, K⟩ := by rw [← hK]
  rw [← eb] at bf
  obtain ⟨b1, b2, b3, b4⟩ := bf
  exact judge_fewer hf0 hf1 ⟨sumAll_le w1, sumAll_le w2⟩ (by rw [sumAll_set _ _ _ hi]; omega) (by rw [sumAll_set _ _ _ hi]; omega) (by rw [sumAll_set _ _ _ hi]; omega) (by rw [sumAll_set _ _ _ hi]; omega)

end Go.Proofs.Ytnombgiacfeloaa
