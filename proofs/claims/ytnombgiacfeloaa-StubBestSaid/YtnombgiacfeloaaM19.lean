/- Plain facts: the best choice of bags is one, whether choices are numbered by the program or by the reference. No program is in sight. -/
import Derived.Test.YtnombgiacfeloaaW22
import Derived.Test.YtnombgiacfeloaaR5
namespace Go.Proofs.Ytnombgiacfeloaa
set_option linter.unusedVariables false
set_option linter.unusedSimpArgs false
open Go.RowKit

/-- A list comes before another one of the same length, index by index. -/
def earlierL : List Int → List Int → Bool
  | x :: xs, y :: ys => if x = y then earlierL xs ys else decide (x < y)
  | _, _ => false

/-- An ascending list of indices from c on, below n. -/
inductive Inc (n : Int) : Int → List Int → Prop
  | nil (c : Int) : Inc n c []
  | cons (c x : Int) (l : List Int) (h1 : c ≤ x) (h2 : x < n) (h : Inc n (x + 1) l) : Inc n c (x :: l)

theorem Inc.weak {n c c' : Int} {l : List Int} (h : Inc n c l) (hc : c' ≤ c) : Inc n c' l := by
  cases h with
  | nil => exact .nil _
  | cons _ x l h1 h2 h => exact .cons _ _ _ (by omega) h2 h

theorem Inc.snoc {n c k : Int} {l : List Int} (h : Inc k c l) (hk : k < n) (hc : c ≤ k) : Inc n c (l ++ [k]) := by
  induction h with
  | nil c => exact .cons _ _ _ hc hk (.nil _)
  | cons c x l h1 h2 _ ih => exact .cons _ _ _ h1 (by omega) (ih (by omega))
theorem Inc.up {n m c : Int} {l : List Int} (h : Inc n c l) (hm : n ≤ m) : Inc m c l := by
  induction h with
  | nil c => exact .nil _
  | cons c x l h1 h2 _ ih => exact .cons _ _ _ h1 (by omega) ih

/-- What an ascending list of indices is as the program's bits. -/
def valL (n : Nat) : List Int → Nat
  | [] => 0
  | x :: l => 2 ^ (n - 1 - x.toNat) + valL n l

theorem valL_snoc (n : Nat) (l : List Int) (x : Int) : valL n (l ++ [x]) = valL n l + 2 ^ (n - 1 - x.toNat) := by
  induction l with
  | nil => simp [valL]
  | cons y l ih => simp only [List.cons_append, valL, ih]; omega

theorem valL_lt {n : Nat} {c : Int} {l : List Int} (h : Inc n c l) (hc : 0 ≤ c) (hn : c ≤ n) : valL n l < 2 ^ (n - c.toNat) := by
  induction h with
  | nil c => exact Nat.two_pow_pos _
  | cons c x l h1 h2 _ ih =>
    have i := ih (by omega) (by omega)
    have e1 : n - (x + 1).toNat = n - 1 - x.toNat := by omega
    rw [e1] at i
    have e2 : (2 : Nat) ^ (n - 1 - x.toNat + 1) ≤ 2 ^ (n - c.toNat) := Nat.pow_le_pow_right (by decide) (by omega)
    rw [Nat.pow_succ] at e2
    simp only [valL]
    omega

theorem valL_order {n : Nat} {c : Int} {l m : List Int} (hl : Inc n c l) (hm : Inc n c m) (hc : 0 ≤ c) (hlen : l.length = m.length) : earlierL l m = true ↔ valL n m < valL n l := by
  induction hl generalizing m with
  | nil c =>
    cases m with
    | nil => simp [earlierL, valL]
    | cons y m => simp at hlen
  | cons c x l h1 h2 hl ih =>
    cases hm with
    | nil => simp at hlen
    | cons _ y m k1 k2 hm =>
      simp only [earlierL, valL]
      by_cases e : x = y
      · subst e
        rw [if_pos rfl, ih hm (by omega) (by simpa using hlen)]
        omega
      · rw [if_neg e, decide_eq_true_eq]
        have a := valL_lt hl (by omega) (by omega)
        have b := valL_lt hm (by omega) (by omega)
        have e1 : n - (x + 1).toNat = n - 1 - x.toNat := by omega
        have e2 : n - (y + 1).toNat = n - 1 - y.toNat := by omega
        rw [e1] at a
        rw [e2] at b
        by_cases hxy : x < y
        · have e3 : (2 : Nat) ^ (n - 1 - y.toNat + 1) ≤ 2 ^ (n - 1 - x.toNat) := Nat.pow_le_pow_right (by decide) (by omega)
          rw [Nat.pow_succ] at e3
          exact ⟨fun _ => by omega, fun _ => hxy⟩
        · have e3 : (2 : Nat) ^ (n - 1 - x.toNat + 1) ≤ 2 ^ (n - 1 - y.toNat) := Nat.pow_le_pow_right (by decide) (by omega)
          rw [Nat.pow_succ] at e3
          exact ⟨fun h => absurd h hxy, fun h => by omega⟩

theorem earlierL_total {n : Nat} {c : Int} {l m : List Int} (hl : Inc n c l) (hm : Inc n c m) (hlen : l.length = m.length) (h1 : earlierL l m = false) (h2 : earlierL m l = false) : l = m := by
  induction hl generalizing m with
  | nil c =>
    cases m with
    | nil => rfl
    | cons y m => simp at hlen
  | cons c x l a1 a2 hl ih =>
    cases hm with
    | nil => simp at hlen
    | cons _ y m k1 k2 hm =>
      simp only [earlierL] at h1 h2
      by_cases e : x = y
      · subst e
        rw [if_pos rfl] at h1 h2
        rw [ih hm (by simpa using hlen) h1 h2]
      · rw [if_neg e, decide_eq_false_iff_not] at h1
        rw [if_neg (fun h => e h.symm), decide_eq_false_iff_not] at h2
        omega

theorem earlierL_trans (l m k : List Int) (hlm : l.length = m.length) (hmk : m.length = k.length) (h1 : earlierL l m = true) (h2 : earlierL m k = true) : earlierL l k = true := by
  induction l generalizing m k with
  | nil => cases m <;> simp [earlierL] at h1
  | cons x l ih =>
    cases m with
    | nil => simp [earlierL] at h1
    | cons y m =>
      cases k with
      | nil => simp [earlierL] at h2
      | cons z k =>
        simp only [earlierL] at *
        by_cases e1 : x = y
        · subst e1
          rw [if_pos rfl] at h1
          by_cases e2 : x = z
          · subst e2
            rw [if_pos rfl] at h2 ⊢
            exact ih m k (by simpa using hlm) (by simpa using hmk) h1 h2
          · rw [if_neg e2] at h2 ⊢
            exact h2
        · rw [if_neg e1, decide_eq_true_eq] at h1
          by_cases e2 : y = z
          · subst e2
            rw [if_neg e1, decide_eq_true_eq]
            exact h1
          · rw [if_neg e2, decide_eq_true_eq] at h2
            rw [if_neg (by omega), decide_eq_true_eq]
            omega

/-- A choice is better than another one: heavier, or as heavy and of fewer bags, or of as many and earlier. -/
def better (g : Int) (l : List Int) (g' : Int) (l' : List Int) : Prop := g' < g ∨ g = g' ∧ (l.length < l'.length ∨ l.length = l'.length ∧ earlierL l l' = true)

theorem better_trans {g h k : Int} {a b c : List Int} (h1 : better g a h b) (h2 : better h b k c) : better g a k c := by
  unfold better at *
  rcases h1 with h1 | ⟨rfl, h1⟩
  · rcases h2 with h2 | ⟨rfl, -⟩
    · exact .inl (by omega)
    · exact .inl h1
  · rcases h2 with h2 | ⟨rfl, h2⟩
    · exact .inl h2
    · refine .inr ⟨rfl, ?_⟩
      rcases h1 with h1 | ⟨l1, h1⟩
      · rcases h2 with h2 | ⟨l2, h2⟩
        · exact .inl (by omega)
        · exact .inl (by omega)
      · rcases h2 with h2 | ⟨l2, h2⟩
        · exact .inl (by omega)
        · exact .inr ⟨by omega, earlierL_trans a b c l1 l2 h1 h2⟩

/-! ### The program's bits and the reference's sets -/

theorem idxTo_inc (n bits k : Nat) : Inc k 0 (idxTo n bits k) := by
  induction k with
  | zero => exact .nil _
  | succ k ih =>
    unfold idxTo
    split
    · exact Inc.snoc ih (by omega) (by omega)
    · exact ih.up (by omega)
theorem idxK_inc (s k : Nat) : Inc k 0 (idxK s k) := by
  induction k with
  | zero => exact .nil _
  | succ k ih =>
    unfold idxK
    split
    · exact Inc.snoc ih (by omega) (by omega)
    · exact ih.up (by omega)

theorem valL_idxTo (n bits : Nat) (hb : bits < 2 ^ n) : ∀ k, k ≤ n → valL n (idxTo n bits k) = bits / 2 ^ (n - k) * 2 ^ (n - k)
  | 0, _ => by
    rw [idxTo, valL, Nat.sub_zero, Nat.div_eq_of_lt hb, Nat.zero_mul]
  | k + 1, hk => by
    have ih := valL_idxTo n bits hb k (by omega)
    have e1 : n - k = (n - (k + 1)) + 1 := by omega
    have e2 : n - 1 - k = n - (k + 1) := by omega
    rw [e1, Nat.pow_succ] at ih
    unfold idxTo hasBit
    rw [e2]
    generalize n - (k + 1) = m at *
    have d : bits / (2 ^ m * 2) = bits / 2 ^ m / 2 := (Nat.div_div_eq_div_mul _ _ _).symm
    rw [d] at ih
    generalize bits / 2 ^ m = q at *
    have e3 : q / 2 * (2 ^ m * 2) + q % 2 * 2 ^ m = q * 2 ^ m := by
      rw [Nat.mul_comm (2 ^ m) 2, ← Nat.mul_assoc, ← Nat.add_mul]
      congr 1
      omega
    cases hq : (q % 2 == 1)
    · rw [beq_eq_false_iff_ne] at hq
      have : q % 2 = 0 := by omega
      rw [this] at e3
      simp only [Bool.false_eq_true, if_false]
      omega
    · rw [beq_iff_eq] at hq
      rw [hq] at e3
      simp only [if_true]
      rw [valL_snoc, Int.toNat_natCast, e2, ih]
      omega

theorem valL_bits (n bits : Nat) (hb : bits < 2 ^ n) : valL n (idxTo n bits n) = bits := by
  rw [valL_idxTo n bits hb n (Nat.le_refl _), Nat.sub_self, Nat.pow_zero, Nat.div_one, Nat.mul_one]

/-- A number's lowest n bits the other way round. -/
def revN (n s : Nat) : Nat := (List.range n).foldl (fun x k => x + if hasK s k then 2 ^ (n - 1 - k) else 0) 0
def revB (n s : Nat) : Nat := (List.range n).foldl (fun x k => x + if hasBit n s k then 2 ^ k else 0) 0

theorem rev_ok {n s : Nat} (hn : n ≤ 10) (hs : s < 2 ^ n) : revN n s < 2 ^ n ∧ ∀ k, k < n → hasBit n (revN n s) k = hasK s k := by
  have : ∀ n, n < 11 → ∀ s, s < 2 ^ n → revN n s < 2 ^ n ∧ ∀ k, k < n → hasBit n (revN n s) k = hasK s k := by decide +kernel
  exact this n (by omega) s hs
theorem revB_ok {n s : Nat} (hn : n ≤ 10) (hs : s < 2 ^ n) : revB n s < 2 ^ n ∧ ∀ k, k < n → hasK (revB n s) k = hasBit n s k := by
  have : ∀ n, n < 11 → ∀ s, s < 2 ^ n → revB n s < 2 ^ n ∧ ∀ k, k < n → hasK (revB n s) k = hasBit n s k := by decide +kernel
  exact this n (by omega) s hs

theorem idx_same {n b s : Nat} (h : ∀ k, k < n → hasBit n b k = hasK s k) : ∀ k, k ≤ n → idxTo n b k = idxK s k
  | 0, _ => rfl
  | k + 1, hk => by rw [idxTo, idxK, h k (by omega), idx_same h k (by omega)]
theorem chosen_same {bs : List Bag} {b s : Nat} (h : ∀ k, k < bs.length → hasBit bs.length b k = hasK s k) : ∀ k, k ≤ bs.length → chosenTo bs b k = chosenK bs s k
  | 0, _ => rfl
  | k + 1, hk => by
    rw [chosenTo, chosenK, chosen_same h k (by omega), h k (by omega)]
    cases bs[k]? <;> rfl

/-! ### The program's choice is the best one -/

theorem ord3_neg (x y : Choice) : ord3 x y < 0 ↔ y.grams < x.grams ∨ x.grams = y.grams ∧ (x.many < y.many ∨ x.many = y.many ∧ y.bits < x.bits) := by
  have two : ∀ u v : Int, orI [u, v] = if u = 0 then (if v = 0 then 0 else v) else u := fun u v => by simp [orI]
  unfold ord3 ord2 ord1
  rw [two, two, two]
  unfold cmpI
  rw [if_pos rfl]
  by_cases a1 : -x.grams < -y.grams
  · rw [if_pos a1]; simp; omega
  · rw [if_neg a1]
    by_cases a2 : -y.grams < -x.grams
    · rw [if_pos a2]; simp; omega
    · rw [if_neg a2]
      have a3 : x.grams = y.grams := by omega
      by_cases b1 : x.many < y.many
      · rw [if_pos b1]; simp; omega
      · rw [if_neg b1]
        by_cases b2 : y.many < x.many
        · rw [if_pos b2]; simp; omega
        · rw [if_neg b2]
          by_cases c1 : -x.bits < -y.bits
          · rw [if_pos c1]; simp; omega
          · rw [if_neg c1]
            by_cases c2 : -y.bits < -x.bits
            · rw [if_pos c2]; simp; omega
            · rw [if_neg c2]; simp; omega

theorem sureB_nil (a f : Int) : sureB a f [] = true := by simp [sureB, fitB, sumTo]
theorem judgeR_sure (a f : Int) (bs : List Bag) : judgeR a f bs = 1 ↔ sureB a f bs = true := by
  rw [judgeR_eq]
  unfold verdict
  cases sureB a f bs
  · simp
    split <;> simp
  · simp

theorem first_opt (a f : Int) (bs : List Bag) (m : Nat) (hm : m ≤ 2 ^ bs.length) :
    ∃ b, b < 2 ^ bs.length ∧ firstTo a f bs m = candOf bs b ∧ sureB a f (chosenTo bs b bs.length) = true ∧ ∀ k, k < m → sureB a f (chosenTo bs k bs.length) = true → ¬ ord3 (candOf bs k) (candOf bs b) < 0 := by
  induction m with
  | zero =>
    refine ⟨0, Nat.two_pow_pos _, ?_, ?_, fun k hk => absurd hk (Nat.not_lt_zero _)⟩
    · simp [firstTo, candOf, chosenTo_zero, leastG]
    · rw [chosenTo_zero]; exact sureB_nil a f
  | succ m ih =>
    obtain ⟨b, hb, he, hs, ht⟩ := ih (by omega)
    rw [firstTo, he]
    unfold stepC
    by_cases h1 : (sameC (candOf bs m) (candOf bs b) || !sureB a f (chosenTo bs m bs.length)) = true
    · rw [if_pos h1]
      refine ⟨b, hb, rfl, hs, fun k hk hsk => ?_⟩
      by_cases e : k = m
      · subst e
        rw [hsk, Bool.not_true, Bool.or_false] at h1
        unfold sameC at h1
        simp only [Bool.and_eq_true, beq_iff_eq] at h1
        rw [ord3_neg]
        omega
      · exact ht k (by omega) hsk
    · rw [if_neg h1]
      have hsm : sureB a f (chosenTo bs m bs.length) = true := by
        cases hq : sureB a f (chosenTo bs m bs.length)
        · rw [hq] at h1; simp at h1
        · rfl
      by_cases h2 : ord3 (candOf bs m) (candOf bs b) < 0
      · rw [if_pos h2]
        refine ⟨m, by omega, rfl, hsm, fun k hk hsk => ?_⟩
        by_cases e : k = m
        · subst e
          rw [ord3_neg]
          omega
        · have := ht k (by omega) hsk
          rw [ord3_neg] at *
          omega
      · rw [if_neg h2]
        refine ⟨b, hb, rfl, hs, fun k hk hsk => ?_⟩
        by_cases e : k = m
        · subst e; exact h2
        · exact ht k (by omega) hsk

theorem idx_len (bs : List Bag) (s : Nat) : ∀ k, k ≤ bs.length → (idxK s k).length = (chosenK bs s k).length
  | 0, _ => rfl
  | k + 1, hk => by
    rw [chosenK_succ bs s k (by omega), idxK]
    have := idx_len bs s k (by omega)
    split <;> simp [this]

/-! ### The reference's choice is the best one -/

/-- What the bags of a set weigh at least. -/
def gK (bs : List Bag) (s : Nat) : Int := sumTo Bag.lo (chosenK bs s bs.length) (chosenK bs s bs.length).length
theorem gK_eq (bs : List Bag) (s : Nat) : gK bs s = leastG (chosenK bs s bs.length) := by simp [gK, sumTo, leastG]

/-- The best choice among the first m sets. -/
structure OptTo (a f : Int) (bs : List Bag) (m : Nat) (L : List Int) (W : Int) : Prop where
  ex : ∃ s, s < 2 ^ bs.length ∧ L = idxK s bs.length ∧ W = gK bs s ∧ judgeR a f (chosenK bs s bs.length) = 1
  top : ∀ s, s < m → judgeR a f (chosenK bs s bs.length) = 1 → ¬ better (gK bs s) (idxK s bs.length) W L

theorem earlierL_self (l : List Int) : earlierL l l = false := by
  induction l with
  | nil => rfl
  | cons x l ih => rw [earlierL, if_pos rfl, ih]
theorem better_self (g : Int) (l : List Int) : ¬ better g l g l := by
  unfold better
  rw [earlierL_self]
  simp

theorem hasK_zero (k : Nat) : hasK 0 k = false := by simp [hasK]
theorem idxK_zero (k : Nat) : idxK 0 k = [] := by
  induction k with
  | zero => rfl
  | succ k ih => rw [idxK, hasK_zero]; simpa using ih
theorem chosenK_zero (bs : List Bag) (k : Nat) (hk : k ≤ bs.length) : chosenK bs 0 k = [] := by
  induction k with
  | zero => rfl
  | succ k ih => rw [chosenK_succ bs 0 k (by omega), hasK_zero]; simpa using ih (by omega)

theorem OptTo.start (a f : Int) (bs : List Bag) : OptTo a f bs 0 [] 0 := by
  refine ⟨⟨0, Nat.two_pow_pos _, (idxK_zero _).symm, ?_, ?_⟩, fun s hs => absurd hs (Nat.not_lt_zero _)⟩
  · rw [gK, chosenK_zero _ _ (Nat.le_refl _)]; simp [sumTo]
  · rw [chosenK_zero _ _ (Nat.le_refl _), judgeR_sure]; exact sureB_nil a f
theorem OptTo.skip {a f : Int} {bs : List Bag} {m : Nat} {L : List Int} {W : Int} (h : OptTo a f bs m L W) (hn : judgeR a f (chosenK bs m bs.length) = 1 → ¬ better (gK bs m) (idxK m bs.length) W L) : OptTo a f bs (m + 1) L W :=
  ⟨h.ex, fun s hs hj => if e : s = m then e ▸ hn (e ▸ hj) else h.top s (by omega) hj⟩
theorem OptTo.take {a f : Int} {bs : List Bag} {m : Nat} {L : List Int} {W : Int} (h : OptTo a f bs m L W) (hm : m < 2 ^ bs.length) (hj : judgeR a f (chosenK bs m bs.length) = 1) (hb : better (gK bs m) (idxK m bs.length) W L) :
    OptTo a f bs (m + 1) (idxK m bs.length) (gK bs m) := by
  refine ⟨⟨m, hm, rfl, rfl, hj⟩, fun s hs hjs hbs => ?_⟩
  by_cases e : s = m
  · subst e; exact better_self _ _ hbs
  · exact h.top s (by omega) hjs (better_trans hbs hb)

/-- The program's choice as a set of the reference: it is sure, and none that is sure is better. -/
theorem bestIdx_opt (a f : Int) (bs : List Bag) (hlen : bs.length ≤ 10) : ∃ s, s < 2 ^ bs.length ∧ bestIdx a f bs = idxK s bs.length ∧ judgeR a f (chosenK bs s bs.length) = 1 ∧
    ∀ t, t < 2 ^ bs.length → judgeR a f (chosenK bs t bs.length) = 1 → ¬ better (gK bs t) (idxK t bs.length) (gK bs s) (idxK s bs.length) := by
  obtain ⟨b, hb, he, hs, ht⟩ := first_opt a f bs _ (Nat.le_refl _)
  obtain ⟨h1, h2⟩ := revB_ok hlen hb
  have hid : idxTo bs.length b bs.length = idxK (revB bs.length b) bs.length := idx_same (fun k hk => (h2 k hk).symm) _ (Nat.le_refl _)
  have hch : chosenTo bs b bs.length = chosenK bs (revB bs.length b) bs.length := chosen_same (fun k hk => (h2 k hk).symm) _ (Nat.le_refl _)
  refine ⟨revB bs.length b, h1, ?_, by rw [judgeR_sure, ← hch]; exact hs, fun t hts hjt hbt => ?_⟩
  · unfold bestIdx
    rw [he]
    show idxTo bs.length (b : Int).toNat bs.length = _
    rw [Int.toNat_natCast, hid]
  · obtain ⟨k1, k2⟩ := rev_ok hlen hts
    have kid : idxTo bs.length (revN bs.length t) bs.length = idxK t bs.length := idx_same k2 _ (Nat.le_refl _)
    have kch : chosenTo bs (revN bs.length t) bs.length = chosenK bs t bs.length := chosen_same k2 _ (Nat.le_refl _)
    refine ht (revN bs.length t) k1 (by rw [kch, ← judgeR_sure]; exact hjt) ?_
    rw [ord3_neg]
    simp only [candOf, kch, hch]
    rw [← gK_eq, ← gK_eq]
    unfold better at hbt
    rw [idx_len bs _ _ (Nat.le_refl _), idx_len bs _ _ (Nat.le_refl _)] at hbt
    rcases hbt with h | ⟨e, h | ⟨l, h⟩⟩
    · exact .inl h
    · exact .inr ⟨e, .inl (by omega)⟩
    · refine .inr ⟨e, .inr ⟨by omega, ?_⟩⟩
      rw [valL_order (n := bs.length) (idxK_inc _ _) (idxK_inc _ _) (by omega) (by rw [idx_len bs _ _ (Nat.le_refl _), idx_len bs _ _ (Nat.le_refl _)]; exact l), ← kid, ← hid, valL_bits _ _ k1, valL_bits _ _ hb] at h
      omega

/-- The best choice is one. -/
theorem opt_best {a f : Int} {bs : List Bag} {L : List Int} {W : Int} (hlen : bs.length ≤ 10) (h : OptTo a f bs (2 ^ bs.length) L W) : L = bestIdx a f bs := by
  obtain ⟨s, hs, e, hj, ht⟩ := bestIdx_opt a f bs hlen
  obtain ⟨t, hts, rfl, rfl, hjt⟩ := h.ex
  have n1 := h.top s hs hj
  have n2 := ht t hts hjt
  rw [e]
  unfold better at n1 n2
  have hg : gK bs t = gK bs s := by omega
  have hl : (idxK t bs.length).length = (idxK s bs.length).length := by omega
  refine earlierL_total (idxK_inc t bs.length) (idxK_inc s bs.length) hl ?_ ?_
  · cases hq : earlierL (idxK t bs.length) (idxK s bs.length)
    · rfl
    · exact absurd (.inr ⟨hg, .inr ⟨hl, hq⟩⟩) n2
  · cases hq : earlierL (idxK s bs.length) (idxK t bs.length)
    · rfl
    · exact absurd (.inr ⟨hg.symm, .inr ⟨hl.symm, hq⟩⟩) n1

end Go.Proofs.Ytnombgiacfeloaa
